import Derived.Test.YtmjnhpagoboejaaDoorC3
import Derived.Test.YtmjnhpagoboejaaDoorC2
import Derived.Test.YtmjnhpagoboejaaDoorC1
import Derived.Test.YtmjnhpagoboejaaDoorProg
import Derived.WalkKit
import Derived.WalkLawsBesides
import Derived.WalkSpells
import Derived.Handy
import Derived.Deep.LoopGhost
import Derived.Lib.AppendStr
import Derived.Laws.BytesArg
/- ref.times. -/
namespace Go.Proofs.YtmjnhpagoboejaaDoor
open Go.RowKit
open Wd
set_option linter.unusedSimpArgs false
set_option linter.unusedVariables false

/-- a word behind another one, so many times, till there are too many letters -/
def tl (c : List Int) : Nat → List Int → List Int
  | 0, o => o
  | f + 1, o => if o.length ≤ 8192 ∧ 0 < c.length then tl c f (o ++ c) else o
def timesL (w : List Int) (n : Int) : List Int := tl (core w) n.toNat (inv (conj w)) ++ conj w
theorem tl_go {c o : List Int} {f : Nat} (h1 : o.length ≤ 8192) (h2 : 0 < c.length) : tl c (f + 1) o = tl c f (o ++ c) := by rw [tl, if_pos ⟨h1, h2⟩]
theorem tl_stop {c o : List Int} {f : Nat} (h : ¬ (o.length ≤ 8192 ∧ 0 < c.length)) : tl c f o = o := by
  cases f with
  | zero => rfl
  | succ f => rw [tl, if_neg h]
theorem tl_len {c : List Int} : ∀ (f : Nat) (o : List Int), (tl c f o).length ≤ max o.length (8192 + c.length)
  | 0, o => by unfold tl; omega
  | f + 1, o => by
    unfold tl
    by_cases h : o.length ≤ 8192 ∧ 0 < c.length
    · rw [if_pos h]
      have := tl_len (c := c) f (o ++ c)
      rw [List.length_append] at this
      omega
    · rw [if_neg h]; omega
theorem timesL_len (w : List Int) (n : Int) : (timesL w n).length ≤ 8192 + 3 * w.length := by
  unfold timesL
  rw [List.length_append]
  have h1 := tl_len (c := core w) n.toNat (inv (conj w))
  rw [inv_len] at h1
  have h2 := core_len w
  have h3 := conj_len w
  have h4 := parts_le w
  omega
theorem letl_core {l : List Int} (h : LetL l) : LetL (core l) := fun k hk => h k (List.mem_of_mem_drop (List.mem_of_mem_take hk))
theorem letl_conj {l : List Int} (h : LetL l) : LetL (conj l) := fun k hk => h k (List.mem_of_mem_drop hk)
theorem letl_small {l : List Int} (h : LetL l) : ∀ k ∈ l, -100 ≤ k ∧ k ≤ 100 := fun k hk => by have := h k hk; omega
set_option maxRecDepth 100000 in
set_option maxHeartbeats 2000000 in
theorem rtimes_any {w : World} {B n c : Nat} {A : Option Addr} {l : List Int} {x : Int} (hr : ReadsI w B A l) (hB : B ≤ w.heap.size) (hn : n = l.length) (hnc : n ≤ c) (hl : LetL l) (hb : n ≤ 100000) (hc : c ≤ 9223372036854775807) (hx1 : 0 ≤ x) (hx2 : x ≤ 9223372036854775807) :
    Calls Tryd.prog 64 #[.slice A n c, .int .i64 x] w (OutI w (timesL l x)) := by
  have HC := Lib.hid (rcore_any hr hB hn hnc hl (by omega) hc)
  obtain ⟨N, hN⟩ : ∃ N : Nat, (N : Int) = x := ⟨x.toNat, by omega⟩
  subst hN
  have hcl := core_len l
  have hjl := conj_len l
  have hpl := parts_le l
  have HL := Lib.hid (And.intro (letl_conj hl) (And.intro (show (core l).length ≤ 100000 by omega) (show (conj l).length ≤ 100000 by omega)))
  have HT := Lib.hid (show timesL l (N : Int) = tl (core l) N (inv (conj l)) ++ conj l from rfl)
  generalize timesL l (N : Int) = T at *
  have HB := Lib.hid hB
  clear hr hB hn hnc hl hb hc hcl hjl hpl hx1
  go_enter Tryd.func64, Tryd.ntmps64
  go_wp2_with fail
  refine HC.out.mono ?_
  rintro e w2 ⟨A1, c1, A2, n2, c2, rfl, hr1, hc1, ho2, hb2⟩
  have hlen2 := ho2.len.1
  have HI := Lib.hid (rinv_any (w := w2) (c := c2) ho2.reads (Nat.le_refl _) hlen2 (letl_small HL.out.1) (by have := HL.out.2.2; omega))
  have H2 := Lib.hid (And.intro hr1 (And.intro ho2 (And.intro hb2 hlen2)))
  generalize core l = C at *
  generalize conj l = J at *
  clear hr1 ho2 hb2 hlen2
  go_wp2_with fail
  refine HI.out.mono ?_
  rintro e w3 ⟨A3, n3, c3, rfl, ho3, hb3⟩
  have hs23 : w.heap.size ≤ w2.heap.size := H2.out.2.2.1.size
  have H3 := Lib.hid (And.intro ho3 (H2.out.2.2.1.trans (hb3.mono hs23)))
  have R1 := Lib.hid (show ReadsI w3 w.heap.size A1 C from ((H2.out.1.more HB.out).below (hb3.mono hs23)))
  have R2 := Lib.hid (show ReadsI w3 w2.heap.size A2 J from (H2.out.2.1.reads.below hb3))
  have hs3 : w2.heap.size ≤ w3.heap.size := hb3.size
  clear ho3 hb3 HI HC
  go_wp2_with fail
  go_loopg [7, 8] N (fun k ov iv wr => ∃ (i : Nat) (A' : Option Addr) (n' c' : Nat) (L : List Int), ov = .slice A' n' c' ∧ iv = .int .i64 (i : Int) ∧ k = N - i ∧ i ≤ N ∧ n' ≤ 200000 ∧ Hid (tl C (N - i) L ++ J = T) ∧ Hid (OwnI wr w2.heap.size (.slice A' n' c') L ∧ Below w2.heap.size w3 wr))
  case atStart => exact ⟨0, A3, n3, c3, _, rfl, rfl, by omega, by omega, by have h := H3.out.1.len.1; rw [inv_len] at h; have := HL.out.2.2; omega, Lib.hid (by rw [HT.out]; rfl), Lib.hid ⟨H3.out.1, Below.refl _ _⟩⟩
  case round =>
    obtain ⟨i, A5, n5, c5, L, rfl, rfl, hk, hi, hn5, hL, hO⟩ := hrel
    have Hk := Lib.hid hk
    have Hn5 := Lib.hid hO.out.1.len.1
    have hsz : w2.heap.size ≤ wr.heap.size := by have := hO.out.2.size; omega
    have hCl : C.length ≤ 100000 := HL.out.2.1
    clear hk
    rcases Decidable.em (i < N) with h1 | h1
    · rcases Decidable.em (n5 ≤ 8192) with h2 | h2
      · rcases Decidable.em (0 < C.length) with h3 | h3
        · have hi1 : (i : Int) < (N : Int) := by omega
          have hi2 : (n5 : Int) ≤ 8192 := by omega
          have hi3 : (0 : Int) < (C.length : Int) := by omega
          have Hst := Lib.hid (show tl C (N - (i + 1)) (L ++ C) ++ J = T by rw [← hL.out, show N - i = (N - (i + 1)) + 1 by omega, tl_go (by rw [← Hn5.out]; exact h2) h3])
          clear h1 h2 h3
          go_wp2_with (refine wpI_append rfl (.tmp 31) (.tmp 32) rfl w2.heap.size _ L C hO.out.1 rfl rfl rfl (R1.out.below (hO.out.2.mono hs23)) (by have := Hn5.out; omega) (by omega) hsz ?_; intro A6 n6 c6 w6 ho6 hn6 hc6 hg6 hw6 hb6; have Ho6 := Lib.hid (And.intro ho6 (And.intro hn6 (hb6 _ hO.out.2))); clear ho6 hn6 hc6 hg6 hw6 hb6)
          go_roundg (N - (i + 1))
          case measure => have := Hk.out; omega
          case rel => exact ⟨i + 1, A6, n6, c6, L ++ C, rfl, rfl, rfl, by omega, by have h := Ho6.out.2.1; have := Hn5.out; omega, Hst, Lib.hid ⟨Ho6.out.1, Ho6.out.2.2⟩⟩
        · have hi1 : (i : Int) < (N : Int) := by omega
          have hi2 : (n5 : Int) ≤ 8192 := by omega
          have hi3 : (C.length : Int) ≤ 0 := by omega
          have Hend := Lib.hid (show L ++ J = T by rw [← hL.out, tl_stop (by omega)])
          clear h1 h2 h3
          go_wp2_with (refine wpI_append rfl (.tmp 34) (.tmp 35) rfl w2.heap.size _ L J hO.out.1 rfl rfl H2.out.2.2.2 (R2.out.below hO.out.2) (by have := Hn5.out; omega) (by have := HL.out.2.2; omega) hsz ?_; intro A6 n6 c6 w6 ho6 hn6 hc6 hg6 hw6 hb6; have Ho6 := Lib.hid (And.intro ho6 (hb6 _ hO.out.2)); clear ho6 hn6 hc6 hg6 hw6 hb6)
          go_ret
          exact ⟨_, _, _, rfl, by rw [← Hend.out]; exact Ho6.out.1.lower hs23, H3.out.2.trans (Ho6.out.2.mono hs23)⟩
      · have hi1 : (i : Int) < (N : Int) := by omega
        have hi2 : (8192 : Int) < (n5 : Int) := by omega
        have Hend := Lib.hid (show L ++ J = T by rw [← hL.out, tl_stop (by have := Hn5.out; omega)])
        clear h1 h2
        go_wp2_with (refine wpI_append rfl (.tmp 34) (.tmp 35) rfl w2.heap.size _ L J hO.out.1 rfl rfl H2.out.2.2.2 (R2.out.below hO.out.2) (by have := Hn5.out; omega) (by have := HL.out.2.2; omega) hsz ?_; intro A6 n6 c6 w6 ho6 hn6 hc6 hg6 hw6 hb6; have Ho6 := Lib.hid (And.intro ho6 (hb6 _ hO.out.2)); clear ho6 hn6 hc6 hg6 hw6 hb6)
        go_ret
        exact ⟨_, _, _, rfl, by rw [← Hend.out]; exact Ho6.out.1.lower hs23, H3.out.2.trans (Ho6.out.2.mono hs23)⟩
    · have hi1 : (N : Int) ≤ (i : Int) := by omega
      have Hend := Lib.hid (show L ++ J = T by rw [← hL.out, show N - i = 0 by omega]; rfl)
      clear h1
      go_wp2_with (refine wpI_append rfl (.tmp 34) (.tmp 35) rfl w2.heap.size _ L J hO.out.1 rfl rfl H2.out.2.2.2 (R2.out.below hO.out.2) (by have := Hn5.out; omega) (by have := HL.out.2.2; omega) hsz ?_; intro A6 n6 c6 w6 ho6 hn6 hc6 hg6 hw6 hb6; have Ho6 := Lib.hid (And.intro ho6 (hb6 _ hO.out.2)); clear ho6 hn6 hc6 hg6 hw6 hb6)
      go_ret
      exact ⟨_, _, _, rfl, by rw [← Hend.out]; exact Ho6.out.1.lower hs23, H3.out.2.trans (Ho6.out.2.mono hs23)⟩
end Go.Proofs.YtmjnhpagoboejaaDoor

/- Roots, plain: the program's is the reference's. -/
namespace Go.Proofs.YtmjnhpagoboejaaDoor
open Wd

theorem reps_comm (c : List Int) : ∀ k, reps k c ++ c = c ++ reps k c
  | 0 => by simp [reps]
  | k + 1 => by
    rw [reps, List.append_assoc, ← List.append_assoc c, ← reps_comm c k, List.append_assoc]
theorem reps_succ (c : List Int) (k : Nat) : reps (k + 1) c = c ++ reps k c := reps_comm c k
theorem tl_reps {c : List Int} : ∀ (n : Nat) (o : List Int), o.length + n * c.length ≤ 8192 → tl c n o = o ++ reps n c
  | 0, o, _ => by simp [tl, reps]
  | n + 1, o, h => by
    rw [Nat.succ_mul] at h
    rcases Nat.eq_zero_or_pos c.length with h0 | h0
    · have : c = [] := List.eq_nil_of_length_eq_zero h0
      subst this
      have hr : ∀ k, reps k ([] : List Int) = [] := fun k => by
        induction k with
        | zero => rfl
        | succ k ih => rw [reps, ih]; rfl
      rw [tl_stop (by simp), hr, List.append_nil]
    · have hl : o.length ≤ 8192 := by omega
      rw [tl_go hl h0, tl_reps n (o ++ c) (by rw [List.length_append]; omega), reps_succ, List.append_assoc]
theorem parts_eq {l : List Int} {t : Nat} (h1 : ∀ i, i < t → 2 * i + 1 < l.length ∧ l.getD i 0 = - l.getD (l.length - 1 - i) 0) (h2 : ¬ (2 * t + 1 < l.length ∧ l.getD t 0 = - l.getD (l.length - 1 - t) 0)) : parts l = t := by
  rcases Nat.lt_trichotomy (parts l) t with h | h | h
  · exact absurd (h1 _ h) (parts_end l)
  · exact h
  · exfalso
    have h3 := parts_le l
    exact h2 ⟨by omega, parts_spec l t h⟩
theorem getD_app_left {a b : List Int} {i : Nat} (h : i < a.length) : (a ++ b).getD i 0 = a.getD i 0 := by
  rw [List.getD_eq_getElem?_getD, List.getD_eq_getElem?_getD, List.getElem?_append_left h]
theorem getD_app_right {a b : List Int} {i : Nat} (h : a.length ≤ i) : (a ++ b).getD i 0 = b.getD (i - a.length) 0 := by
  rw [List.getD_eq_getElem?_getD, List.getD_eq_getElem?_getD, List.getElem?_append_right h]
theorem getD_inv (j : List Int) {i : Nat} (h : i < j.length) : (inv j).getD i 0 = - j.getD (j.length - 1 - i) 0 := by
  unfold inv
  rw [getD_rev _ (by rw [List.length_map]; exact h), getD_neg, List.length_map]
/-- a word conjugated by letters: its core is the word's -/
theorem parts_conj (j p : List Int) (hp : 1 ≤ p.length) : parts (inv j ++ p ++ j) = j.length + parts p := by
  have hl : (inv j ++ p ++ j).length = 2 * j.length + p.length := by rw [List.length_append, List.length_append, inv_len]; omega
  have hin : ∀ i, i < j.length → (inv j ++ p ++ j).getD i 0 = - (inv j ++ p ++ j).getD ((inv j ++ p ++ j).length - 1 - i) 0 := by
    intro i hi
    have e1 : (inv j ++ p ++ j).getD i 0 = - j.getD (j.length - 1 - i) 0 := by rw [List.append_assoc, getD_app_left (by rw [inv_len]; exact hi), getD_inv j hi]
    have e2 : (inv j ++ p ++ j).getD (2 * j.length + p.length - 1 - i) 0 = j.getD (j.length - 1 - i) 0 := by
      rw [getD_app_right (a := inv j ++ p) (by rw [List.length_append, inv_len]; omega), List.length_append, inv_len]
      congr 1
      omega
    rw [hl, e1, e2]
  have hmid : ∀ i, 2 * i + 1 < p.length → ((inv j ++ p ++ j).getD (j.length + i) 0 = - (inv j ++ p ++ j).getD ((inv j ++ p ++ j).length - 1 - (j.length + i)) 0 ↔ p.getD i 0 = - p.getD (p.length - 1 - i) 0) := by
    intro i hi
    rw [hl, getD_app_left (a := inv j ++ p) (by rw [List.length_append, inv_len]; omega), getD_app_left (a := inv j ++ p) (by rw [List.length_append, inv_len]; omega), getD_app_right (by rw [inv_len]; omega), getD_app_right (by rw [inv_len]; omega), inv_len]
    rw [show j.length + i - j.length = i by omega, show 2 * j.length + p.length - 1 - (j.length + i) - j.length = p.length - 1 - i by omega]
  have hpl := parts_le p
  apply parts_eq
  · intro i hi
    refine ⟨by omega, ?_⟩
    rcases Nat.lt_or_ge i j.length with h | h
    · exact hin i h
    · have := (hmid (i - j.length) (by omega)).2 (parts_spec p (i - j.length) (by omega))
      rwa [show j.length + (i - j.length) = i by omega] at this
  · rintro ⟨h1, h2⟩
    exact parts_end p ⟨by omega, (hmid (parts p) (by omega)).1 h2⟩
theorem core_conj (j p : List Int) (hp : 1 ≤ p.length) : core (inv j ++ p ++ j) = core p ∧ conj (inv j ++ p ++ j) = conj p ++ j := by
  have h := parts_conj j p hp
  have hpl := parts_le p
  have hl : (inv j ++ p ++ j).length = 2 * j.length + p.length := by rw [List.length_append, List.length_append, inv_len]; omega
  constructor
  · unfold core
    rw [h, hl, List.append_assoc, List.drop_append, List.drop_of_length_le (by rw [inv_len]; omega), List.nil_append, inv_len, show j.length + parts p - j.length = parts p by omega, show 2 * j.length + p.length - 2 * (j.length + parts p) = p.length - 2 * parts p by omega]
    rw [List.drop_append, List.take_append_of_le_length (by rw [List.length_drop]; omega)]
  · unfold conj
    rw [h, hl, List.append_assoc, List.drop_append, List.drop_of_length_le (by rw [inv_len]; omega), List.nil_append, inv_len]
    rw [show 2 * j.length + p.length - (j.length + parts p) - j.length = p.length - parts p by omega, List.drop_append, show p.length - parts p - p.length = 0 by omega, List.drop_zero]
/-- a period, and the repetition -/
theorem rep_iff : ∀ (k p : Nat) (c : List Int), c.length = k * p → 1 ≤ p → (c.drop p = c.take (c.length - p) ↔ c = reps k (c.take p))
  | 0, p, c, h, _ => by
    have : c = [] := List.eq_nil_of_length_eq_zero (by omega)
    subst this
    simp [reps]
  | 1, p, c, h, _ => by
    rw [List.drop_of_length_le (by omega), show c.length - p = 0 by omega, List.take_zero]
    simp [reps, List.take_of_length_le (l := c) (i := p) (by omega)]
  | k + 2, p, c, h, hp => by
    have hl : c.length = (k + 1) * p + p := by rw [h, Nat.succ_mul]
    have hkp : p ≤ (k + 1) * p := by rw [Nat.succ_mul]; omega
    have hd : (c.drop p).length = (k + 1) * p := by rw [List.length_drop]; omega
    have ih := rep_iff (k + 1) p (c.drop p) hd hp
    have hsplit : c = c.take p ++ c.drop p := (List.take_append_drop p c).symm
    constructor
    · intro he
      have e1 : (c.drop p).take p = c.take p := by rw [he, List.take_take, Nat.min_eq_left (by omega)]
      have e2 : (c.drop p).drop p = (c.drop p).take ((c.drop p).length - p) := by
        have h5 : List.drop p (List.take (c.length - p) c) = List.take (c.length - p - p) (List.drop p c) := List.drop_take ..
        calc (c.drop p).drop p = List.drop p (List.take (c.length - p) c) := by rw [← he]
          _ = List.take (c.length - p - p) (List.drop p c) := h5
          _ = (c.drop p).take ((c.drop p).length - p) := by rw [List.length_drop]
      have h4 := ih.1 e2
      rw [e1] at h4
      rw [reps_succ, ← h4]
      exact hsplit
    · intro he
      have hq : (c.take p).length = p := by rw [List.length_take]; omega
      obtain ⟨q, hqe⟩ : ∃ q, q = c.take p := ⟨_, rfl⟩
      rw [← hqe] at he hq
      have e1 : c.drop p = reps (k + 1) q := by
        rw [he, reps_succ, List.drop_append, List.drop_of_length_le (by omega), List.nil_append, hq, Nat.sub_self, List.drop_zero]
      have e2 : c.take (c.length - p) = reps (k + 1) q := by
        rw [show c.length - p = (reps (k + 1) q).length by rw [reps_len, hq]; omega]
        rw [he]
        show List.take _ (reps (k + 1) q ++ q) = _
        rw [List.take_append_of_le_length (Nat.le_refl _), List.take_of_length_le (Nat.le_refl _)]
      rw [e1, e2]
/-- the least period -/
theorem perN_spec {l : List Int} : ∀ f p, p + f = l.length → 1 ≤ p → (∀ q, 1 ≤ q → q < p → ¬ (l.length % q = 0 ∧ l.drop q = l.take (l.length - q))) → (l.length % perN l f p = 0 ∧ l.drop (perN l f p) = l.take (l.length - perN l f p)) ∧ ∀ q, 1 ≤ q → q < perN l f p → ¬ (l.length % q = 0 ∧ l.drop q = l.take (l.length - q))
  | 0, p, h, hp, h2 => by
    unfold perN
    refine ⟨⟨by rw [show p = l.length by omega]; exact Nat.mod_self _, ?_⟩, h2⟩
    rw [List.drop_of_length_le (by omega), show l.length - p = 0 by omega, List.take_zero]
  | f + 1, p, h, hp, h2 => by
    unfold perN
    by_cases hc : l.length % p ≠ 0 ∨ l.drop p ≠ l.take (l.length - p)
    · rw [if_pos hc]
      refine perN_spec f (p + 1) (by omega) (by omega) (fun q h1 h3 => ?_)
      rcases Nat.lt_or_ge q p with h4 | h4
      · exact h2 q h1 h4
      · rw [show q = p by omega]
        rintro ⟨h5, h6⟩
        rcases hc with h7 | h7
        · exact h7 h5
        · exact h7 h6
    · rw [if_neg hc]
      refine ⟨⟨Decidable.byContradiction fun h => hc (.inl h), Decidable.byContradiction fun h => hc (.inr h)⟩, h2⟩
theorem per_spec {l : List Int} (h : 1 ≤ l.length) : (l.length % per l = 0 ∧ l.drop (per l) = l.take (l.length - per l)) ∧ ∀ q, 1 ≤ q → q < per l → ¬ (l.length % q = 0 ∧ l.drop q = l.take (l.length - q)) :=
  perN_spec (l.length - 1) 1 (by omega) (by omega) (fun q h1 h2 => by omega)
/-- the reference's root -/
def rrootN (c j w : List Int) : Nat → List Int × Nat
  | 0 => (w, 1)
  | 1 => (w, 1)
  | n + 2 => if c.length % (n + 2) = 0 ∧ inv j ++ c ++ j = timesL (inv j ++ c.take (c.length / (n + 2)) ++ j) ((n + 2 : Nat) : Int) then (inv j ++ c.take (c.length / (n + 2)) ++ j, n + 2) else rrootN c j w (n + 1)
theorem reps_ends {c p : List Int} {n : Nat} (hn : 2 ≤ n) (hp : 2 ≤ p.length) (hc : Red c) (he : c = reps n p) : ¬ (p.getD 0 0 = - p.getD (p.length - 1 - 0) 0) := by
  intro h
  obtain ⟨m, rfl⟩ : ∃ m, n = m + 2 := ⟨n - 2, by omega⟩
  have e : c = p ++ (p ++ reps m p) := by rw [he, reps_succ, reps_succ]
  have hr := (red_iff.1 hc).2 (p.length - 1) (by rw [e]; simp; omega)
  rw [e] at hr
  have e1 : (p ++ (p ++ reps m p)).getD (p.length - 1) 0 = p.getD (p.length - 1) 0 := getD_app_left (by omega)
  have e2 : (p ++ (p ++ reps m p)).getD (p.length - 1 + 1) 0 = p.getD 0 0 := by
    rw [getD_app_right (by omega), show p.length - 1 + 1 - p.length = 0 by omega, getD_app_left (by omega)]
  rw [e1, e2] at hr
  rw [Nat.sub_zero] at h
  exact hr h
theorem times_iff {c j : List Int} {n : Nat} (hc : Red c) (hn : 2 ≤ n) (hd : c.length % n = 0) (h1 : 1 ≤ c.length) (hs : c.length + 2 * j.length ≤ 4096) :
    inv j ++ c ++ j = timesL (inv j ++ c.take (c.length / n) ++ j) (n : Int) ↔ c = reps n (c.take (c.length / n)) := by
  obtain ⟨p, hp⟩ : ∃ p, p = c.take (c.length / n) := ⟨_, rfl⟩
  rw [← hp]
  have hnp : n * (c.length / n) = c.length := Nat.mul_div_cancel' (Nat.dvd_of_mod_eq_zero hd)
  have hpl : p.length = c.length / n := by
    rw [hp, List.length_take, Nat.min_eq_left (Nat.div_le_self _ _)]
  have hpp : n * p.length = c.length := by rw [hpl]; exact hnp
  have hp1 : 1 ≤ p.length := by
    rcases Nat.eq_zero_or_pos p.length with h | h
    · rw [h] at hpp; omega
    · exact h
  obtain ⟨ec, ej⟩ := core_conj j p hp1
  have hcl := core_len p
  have hjl := conj_len p
  have hpa := parts_le p
  have hmul : n * (core p).length ≤ n * p.length := Nat.mul_le_mul_left _ (by omega)
  have hpn : p.length ≤ n * p.length := Nat.le_mul_of_pos_left _ (by omega)
  unfold timesL
  rw [ec, ej, show ((n : Int)).toNat = n by omega, tl_reps n _ (by rw [inv_len, List.length_append]; omega), inv_app]
  rcases Nat.eq_zero_or_pos (parts p) with h0 | h0
  · have hc0 : core p = p := by unfold core; rw [h0, List.drop_zero, List.take_of_length_le (by omega)]
    have hj0 : conj p = [] := List.eq_nil_of_length_eq_zero (by omega)
    rw [hc0, hj0]
    constructor
    · intro h
      rw [List.nil_append, show inv ([] : List Int) = [] from rfl, List.append_nil] at h
      exact List.append_cancel_left (List.append_cancel_right h)
    · intro h
      rw [List.nil_append, show inv ([] : List Int) = [] from rfl, List.append_nil, ← h]
  · constructor
    · intro h
      exfalso
      have hl := congrArg List.length h
      simp only [List.length_append, inv_len, reps_len] at hl
      have h2 : n * (core p).length + 2 * (n * parts p) = n * p.length := by
        have : n * ((core p).length + 2 * parts p) = n * p.length := by rw [hcl]; congr 1; omega
        rw [Nat.mul_add] at this
        have h3 : n * (2 * parts p) = 2 * (n * parts p) := by rw [Nat.mul_left_comm]
        omega
      have h3 : 2 * parts p ≤ n * parts p := Nat.mul_le_mul_right _ hn
      omega
    · intro h
      exfalso
      have h5 := parts_spec p 0 h0
      have h6 := parts_le p
      exact reps_ends hn (by omega) hc h h5
theorem red_mid {a b c : List Int} (h : Red (a ++ b ++ c)) : Red b := by
  have hi := red_iff.1 h
  refine red_iff.2 ⟨fun k hk => hi.1 k (by simp [hk]), fun i hl => ?_⟩
  have h1 := hi.2 (a.length + i) (by rw [List.length_append, List.length_append]; omega)
  rw [getD_app_left (a := a ++ b) (by rw [List.length_append]; omega), getD_app_left (a := a ++ b) (by rw [List.length_append]; omega), getD_app_right (by omega), getD_app_right (by omega), show a.length + i + 1 - a.length = i + 1 by omega, show a.length + i - a.length = i by omega] at h1
  exact h1
theorem red_core {s : List Int} (h : Red s) : Red (core s) := by
  rw [word_parts s] at h
  exact red_mid h
/-- the root of a reduced word -/
def rootS (s : List Int) : List Int := inv (conj s) ++ (core s).take (per (core s)) ++ conj s
theorem rroot_eq {s : List Int} (hr : Red s) (h1 : 1 ≤ s.length) (hs : s.length ≤ 4096) : rrootN (core s) (conj s) s (core s).length = (rootS s, (core s).length / per (core s)) := by
  have hcp := core_pos hr h1
  have hcr := red_core hr
  obtain ⟨⟨hp1, hp2⟩, hp3⟩ := per_spec hcp
  have hple := per_le hcp
  have hcl := core_len s
  have hjl := conj_len s
  have hpl := parts_le s
  obtain ⟨c, hc⟩ : ∃ c, c = core s := ⟨_, rfl⟩
  obtain ⟨P, hP⟩ : ∃ P, P = per (core s) := ⟨_, rfl⟩
  have hroot : rootS s = inv (conj s) ++ c.take P ++ conj s := by rw [hc, hP]; rfl
  rw [hroot]
  rw [← hP] at hp1 hp2 hp3 hple ⊢
  rw [← hc] at hcp hcr hp1 hp2 hp3 hple hcl ⊢
  have hk : c.length / P * P = c.length := Nat.div_mul_cancel (Nat.dvd_of_mod_eq_zero hp1)
  obtain ⟨K, hK⟩ : ∃ K, K = c.length / P := ⟨_, rfl⟩
  rw [← hK] at hk ⊢
  have hK1 : 1 ≤ K := by
    rcases Nat.eq_zero_or_pos K with h | h
    · rw [h] at hk; omega
    · exact h
  -- what a hit means
  have hit : ∀ n, 2 ≤ n → (c.length % n = 0 ∧ inv (conj s) ++ c ++ conj s = timesL (inv (conj s) ++ c.take (c.length / n) ++ conj s) (n : Int)) → n ≤ K := by
    rintro n hn ⟨hd, he⟩
    have h4 := (times_iff hcr hn hd hcp (by omega)).1 he
    have hnp : c.length / n * n = c.length := Nat.div_mul_cancel (Nat.dvd_of_mod_eq_zero hd)
    have hq1 : 1 ≤ c.length / n := by
      rcases Nat.eq_zero_or_pos (c.length / n) with h | h
      · rw [h] at hnp; omega
      · exact h
    have h5 := (rep_iff n (c.length / n) c (by rw [Nat.mul_comm]; exact hnp.symm) hq1).2 h4
    have h6 : P ≤ c.length / n := Nat.le_of_not_lt fun hlt => hp3 _ hq1 hlt ⟨Nat.mod_eq_zero_of_dvd ⟨n, by omega⟩, h5⟩
    have h7 : n * P ≤ K * P := by
      rw [hk, ← hnp, Nat.mul_comm]
      exact Nat.mul_le_mul_right _ h6
    exact Nat.le_of_mul_le_mul_right h7 (by omega)
  have hmain : ∀ N, K ≤ N → rrootN c (conj s) s N = (inv (conj s) ++ c.take P ++ conj s, K) := by
    intro N
    induction N with
    | zero => intro h; omega
    | succ N ih =>
      intro h
      cases N with
      | zero =>
        have hk1 : K = 1 := by omega
        have hP1 : P = c.length := by rw [hk1] at hk; omega
        rw [hk1, rrootN, hP1, List.take_of_length_le (Nat.le_refl _), hc, ← word_parts s]
      | succ n =>
        rw [rrootN]
        rcases Nat.lt_or_ge K (n + 2) with hlt | hge
        · rw [if_neg, ih (by omega)]
          intro hh
          have := hit (n + 2) (by omega) hh
          omega
        · have hKn : K = n + 2 := by omega
          have hPn : c.length / (n + 2) = P := by rw [← hKn, ← hk]; exact Nat.mul_div_cancel_left _ hK1
          have hd : c.length % (n + 2) = 0 := by rw [← hKn, ← hk]; exact Nat.mul_mod_right _ _
          rw [if_pos, hPn, hKn]
          refine ⟨hd, (times_iff hcr (by omega) hd hcp (by omega)).2 ?_⟩
          rw [hPn]
          exact (rep_iff (n + 2) P c (by rw [← hKn]; exact hk.symm) hple.1).1 hp2
  exact hmain c.length (by rw [← hk]; exact Nat.le_mul_of_pos_right _ hple.1)
end Go.Proofs.YtmjnhpagoboejaaDoor

/- ref.Root. -/
namespace Go.Proofs.YtmjnhpagoboejaaDoor
open Go.RowKit
open Wd
set_option linter.unusedSimpArgs false
set_option linter.unusedVariables false

theorem rows_lit (w : World) (rs : List SRow) {B : Nat} (h : ∀ r ∈ rs, ReadsI w B r.1 r.2.2) (hB : B ≤ w.heap.size) : ReadsL (w.alloc (.cells (rs.map sv).toArray 22)) (w.heap.size + 1) (some ⟨w.heap.size, 0, none⟩) rs := by
  refine ⟨⟨by simp, fun _ => ⟨_, rfl, Nat.lt_succ_self _, fun j u hu => ?_⟩⟩, fun r' hr' => ?_⟩
  · have hb := Blk.new w 22 (rs.map sv).toArray
    have e : (⟨w.heap.size, 0, none⟩ : Addr).add j = ⟨w.heap.size, j, none⟩ := by rw [Addr.add_lit, Nat.zero_add]
    rw [e, hb.cell j]
    simpa using hu
  · exact ((h r' hr').alloc hB _).more (by omega)
/-- three words, one behind the other -/
theorem rjoin3 {w : World} {B n1 c1 n2 c2 n3 c3 : Nat} {A1 A2 A3 : Option Addr} {a b d : List Int} (h1 : ReadsI w B A1 a) (h2 : ReadsI w B A2 b) (h3 : ReadsI w B A3 d) (hB : B ≤ w.heap.size) (e1 : n1 = a.length) (e2 : n2 = b.length) (e3 : n3 = d.length) (hl : a.length + b.length + d.length ≤ 1000000000) :
    Calls Tryd.prog 63 #[.slice (some ⟨w.heap.size, 0, none⟩) 3 3] (w.alloc (.cells #[.slice A1 n1 c1, .slice A2 n2 c2, .slice A3 n3 c3] 22)) (OutI w (a ++ b ++ d)) := by
  subst e1 e2 e3
  have h := rjoined_any (w := w.alloc (.cells #[.slice A1 a.length c1, .slice A2 b.length c2, .slice A3 d.length c3] 22)) (c := 3) (n := 3) (rows_lit w [(A1, c1, a), (A2, c2, b), (A3, c3, d)] (fun r hr => by
    simp only [List.mem_cons, List.mem_nil_iff, or_false] at hr
    rcases hr with rfl | rfl | rfl
    · exact h1
    · exact h2
    · exact h3) hB) (by simp) rfl (by decide) (by simp; omega)
  refine h.mono ?_
  rintro e w' ⟨A', n', c', rfl, ho, hb⟩
  refine ⟨A', n', c', rfl, ?_, ((Below.refl w.heap.size w).alloc (Nat.le_refl _) _).trans (hb.mono (by simp))⟩
  have e : List.flatten (List.map (fun r : SRow => r.2.2) [(A1, c1, a), (A2, c2, b), (A3, c3, d)]) = a ++ b ++ d := by simp
  rw [e] at ho
  exact ho.lower (by simp)
/-- what the reference's Root leaves -/
def RRootOut (w : World) (R : List Int × Nat) (e : Ending) (w' : World) : Prop := ∃ A' n' c', e = .returned (.tuple #[.slice A' n' c', .int .i64 (R.2 : Int)]) ∧ ReadsI w' w'.heap.size A' R.1 ∧ n' = R.1.length ∧ Below w.heap.size w w'
theorem rrootN_hit {c j s p : List Int} {n : Nat} (hn : 2 ≤ n) (hp : p = c.take (c.length / n)) (hd : c.length % n = 0) (h : inv j ++ c ++ j = timesL (inv j ++ p ++ j) (n : Int)) : rrootN c j s n = (inv j ++ p ++ j, n) := by
  obtain ⟨m, rfl⟩ : ∃ m, n = m + 2 := ⟨n - 2, by omega⟩
  rw [rrootN, ← hp, if_pos ⟨hd, h⟩]
theorem rrootN_miss {c j s p : List Int} {n : Nat} (hn : 2 ≤ n) (hp : p = c.take (c.length / n)) (h : ¬ (c.length % n = 0 ∧ inv j ++ c ++ j = timesL (inv j ++ p ++ j) (n : Int))) : rrootN c j s n = rrootN c j s (n - 1) := by
  obtain ⟨m, rfl⟩ : ∃ m, n = m + 2 := ⟨n - 2, by omega⟩
  rw [rrootN, ← hp, if_neg h]
  rfl
theorem rrootN_end {c j s : List Int} {n : Nat} (hn : n ≤ 1) : rrootN c j s n = (s, 1) := by
  rcases Nat.eq_zero_or_pos n with h | h
  · subst h; rfl
  · rw [show n = 1 by omega]; rfl
set_option maxRecDepth 100000 in
set_option maxHeartbeats 4000000 in
theorem rroot_any {w : World} {B n c : Nat} {A : Option Addr} {s : List Int} (hr : ReadsI w B A s) (hB : B ≤ w.heap.size) (hn : n = s.length) (hnc : n ≤ c) (hl : LetL s) (hb : n ≤ 4096) (hc : c ≤ 9223372036854775807) :
    Calls Tryd.prog 29 #[.slice A n c] w (RRootOut w (rrootN (core s) (conj s) s (core s).length)) := by
  have HC := Lib.hid (rcore_any hr hB hn hnc hl (by omega) hc)
  have hcl := core_len s
  have hjl := conj_len s
  have hpl := parts_le s
  have HL := Lib.hid (And.intro (letl_core hl) (And.intro (letl_conj hl) (And.intro (show (core s).length ≤ 4096 by omega) (show (conj s).length ≤ 4096 by omega))))
  have HR := Lib.hid (And.intro (hr.more hB) hn)
  obtain ⟨R, hR⟩ : ∃ R, R = rrootN (core s) (conj s) s (core s).length := ⟨_, rfl⟩
  have HRe := Lib.hid hR.symm
  rw [← hR]
  have HB := Lib.hid hB
  clear hr hB hn hnc hl hb hc hcl hjl hpl hR
  go_enter Tryd.func29, Tryd.ntmps29
  go_wp2_with fail
  refine HC.out.mono ?_
  rintro e w2 ⟨A1, c1, A2, n2, c2, rfl, hr1, hc1, ho2, hb2⟩
  have hlen2 := ho2.len.1
  have H2 := Lib.hid (And.intro (show ReadsI w2 w2.heap.size A1 (core s) from hr1.more (by have := HB.out; have := hb2.size; omega)) (And.intro ho2.reads (And.intro hb2 hlen2)))
  generalize core s = C at *
  generalize conj s = J at *
  have hcm : C.length ≤ 4096 := HL.out.2.2.1
  obtain ⟨m, hm⟩ : ∃ m, m = C.length := ⟨_, rfl⟩
  rw [← hm] at hcm hc1 ⊢
  have Hm := Lib.hid hm
  have HR2 := Lib.hid (show rrootN C J s m = R by rw [hm]; exact HRe.out)
  clear hr1 ho2 hb2 hlen2 hm HC HRe
  go_wp2_with fail
  go_loopg [6] m (fun k nv wr => ∃ N : Nat, nv = .int .i64 (N : Int) ∧ k = N ∧ N ≤ m ∧ Hid (rrootN C J s N = R) ∧ Hid (Below w2.heap.size w2 wr))
  case atStart => exact ⟨m, rfl, rfl, by omega, HR2, Lib.hid (Below.refl _ _)⟩
  case round =>
    obtain ⟨N, rfl, hk, hN, hRN, hO⟩ := hrel
    have Hk := Lib.hid hk
    clear hk
    by_cases hN1 : 2 ≤ N
    · have hNi : (1 : Int) < (N : Int) := by omega
      have hN0 : ¬ N = 0 := by omega
      obtain ⟨r, hre⟩ : ∃ r, r = m % N := ⟨_, rfl⟩
      have hrt : Int.tmod (m : Int) (N : Int) = (r : Int) := by rw [hre]; rfl
      have hrl : r ≤ 4096 := by rw [hre]; have := Nat.mod_lt m (show 0 < N by omega); omega
      have hrw : IntKind.i64.wrap (r : Int) = (r : Int) := by rw [IntKind.wrap_i64]; omega
      by_cases hr0 : r = 0
      · have hrb : ((r : Int) != 0) = false := by rw [hr0]; rfl
        obtain ⟨q, hqe⟩ : ∃ q, q = m / N := ⟨_, rfl⟩
        have hqt : Int.tdiv (m : Int) (N : Int) = (q : Int) := by rw [hqe]; rfl
        have hqm : q ≤ m := by rw [hqe]; exact Nat.div_le_self _ _
        have hqw : IntKind.i64.wrap (q : Int) = (q : Int) := by rw [IntKind.wrap_i64]; omega
        obtain ⟨p, hpe⟩ : ∃ p, p = C.take q := ⟨_, rfl⟩
        have hpl : p.length = q := by rw [hpe, List.length_take]; have := Hm.out; omega
        have RA := Lib.hid (show ReadsI wr w2.heap.size A1 C from H2.out.1.below hO.out)
        have RJ := Lib.hid (show ReadsI wr w2.heap.size A2 J from H2.out.2.1.below hO.out)
        have RP := Lib.hid (show ReadsI wr w2.heap.size A1 p by rw [hpe]; exact ReadsI.take (m := C.drop q) (by rw [List.take_append_drop]; exact RA.out))
        have HLp := Lib.hid (show LetL p by rw [hpe]; exact fun k hk => HL.out.1 k (List.mem_of_mem_take hk))
        have Hpl := Lib.hid hpl
        have Hhit := Lib.hid (fun h : inv J ++ C ++ J = timesL (inv J ++ p ++ J) (N : Int) => show R = (inv J ++ p ++ J, N) by rw [← hRN.out]; exact rrootN_hit hN1 (by rw [hpe, hqe, Hm.out]) (by rw [← Hm.out, ← hre]; exact hr0) h)
        have Hmiss := Lib.hid (fun h : ¬ (inv J ++ C ++ J = timesL (inv J ++ p ++ J) (N : Int)) => show rrootN C J s (N - 1) = R by rw [← hRN.out]; exact (rrootN_miss hN1 (by rw [hpe, hqe, Hm.out]) (fun hh => h hh.2)).symm)
        have hqmi : (q : Int) ≤ (m : Int) := by omega
        have hqc : (q : Int) ≤ (c1 : Int) := by omega
        have HI := Lib.hid (fun (W : World) (h : ReadsI W W.heap.size A2 J) => rinv_any (c := c2) h (Nat.le_refl _) H2.out.2.2.2 (letl_small HL.out.2.1) (by have := H2.out.2.2.2; have := HL.out.2.2.2; omega))
        have Hlens := Lib.hid (show (inv J).length + C.length + J.length ≤ 1000000000 ∧ (inv J).length + p.length + J.length ≤ 100000 by have := HL.out.2.2; have := Hpl.out; rw [inv_len]; omega)
        have hs2 := hO.out.size
        have HLv := Lib.hid (show LetL (inv J ++ p ++ J) from fun k hk => by
          rw [List.mem_append, List.mem_append] at hk
          rcases hk with (h | h) | h
          · exact letl_inv HL.out.2.1 k h
          · exact HLp.out k h
          · exact HL.out.2.1 k h)
        subst hr0
        clear hre hqe hpe hpl
        go_wp2_with fail
        refine (HI.out wr (RJ.out.more hs2)).mono ?_
        rintro e w3 ⟨A3, n3, c3, rfl, ho3, hb3⟩
        have H3 := Lib.hid (And.intro ho3.reads (And.intro ho3.len.1 hb3))
        clear ho3 hb3
        have hn3 := H3.out.2.1
        have b3 : w2.heap.size ≤ w3.heap.size := by have := H3.out.2.2.size; omega
        have HJ1 := Lib.hid (rjoin3 (w := w3) (c1 := c3) (c2 := c1) (c3 := c2) H3.out.1 ((RA.out.more hs2).below H3.out.2.2 |>.more H3.out.2.2.size) ((RJ.out.more hs2).below H3.out.2.2 |>.more H3.out.2.2.size) (Nat.le_refl _) hn3 Hm.out H2.out.2.2.2 Hlens.out.1)
        clear hn3
        go_wp2_with fail
        refine HJ1.out.mono ?_
        rintro e w4 ⟨A4, n4, c4, rfl, ho4, hb4⟩
        have H4 := Lib.hid (And.intro ho4.reads (And.intro ho4.len.1 (H3.out.2.2.trans (hb4.mono H3.out.2.2.size))))
        have b4 : wr.heap.size ≤ w4.heap.size := H4.out.2.2.size
        clear ho4 hb4
        go_wp2_with fail
        refine (HI.out w4 ((RJ.out.more hs2).below H4.out.2.2 |>.more b4)).mono ?_
        rintro e w5 ⟨A5, n5, c5, rfl, ho5, hb5⟩
        have H5 := Lib.hid (And.intro ho5.reads (And.intro ho5.len.1 (And.intro hb5 (H4.out.2.2.trans (hb5.mono b4)))))
        have b5 : wr.heap.size ≤ w5.heap.size := H5.out.2.2.2.size
        clear ho5 hb5
        have HJ2 := Lib.hid (rjoin3 (w := w5) (c1 := c5) (c2 := c1) (c3 := c2) H5.out.1 ((RP.out.more hs2).below H5.out.2.2.2 |>.more b5) ((RJ.out.more hs2).below H5.out.2.2.2 |>.more b5) (Nat.le_refl _) H5.out.2.1 Hpl.out.symm H2.out.2.2.2 (by have := Hlens.out.2; omega))
        go_wp2_with fail
        refine HJ2.out.mono ?_
        rintro e w6 ⟨A6, n6, c6, rfl, ho6, hb6⟩
        have H6 := Lib.hid (And.intro ho6 (And.intro (H5.out.2.2.1.trans (hb6.mono H5.out.2.2.1.size)) (H5.out.2.2.2.trans (hb6.mono b5))))
        have b6 : wr.heap.size ≤ w6.heap.size := H6.out.2.2.size
        clear ho6 hb6
        have HT := Lib.hid (rtimes_any (w := w6) (c := c6) (x := (N : Int)) H6.out.1.reads (Nat.le_refl _) H6.out.1.len.1 H6.out.1.len.2.1 HLv.out (by have h := H6.out.1.len.1; rw [List.length_append, List.length_append] at h; have := Hlens.out.2; omega) H6.out.1.len.2.2 (by omega) (by omega))
        go_wp2_with fail
        refine HT.out.mono ?_
        rintro e w7 ⟨A7, n7, c7, rfl, ho7, hb7⟩
        have H7 := Lib.hid (And.intro ho7 (And.intro (H6.out.2.1.trans (hb7.mono H6.out.2.1.size)) (H6.out.2.2.trans (hb7.mono b6))))
        have b7 : wr.heap.size ≤ w7.heap.size := H7.out.2.2.size
        clear ho7 hb7
        have R4 := Lib.hid (show ReadsI w7 w7.heap.size A4 (inv J ++ C ++ J) from (H4.out.1.below H7.out.2.1).more H7.out.2.1.size)
        have hl4 := Hlens.out.1
        have hl4b : n4 ≤ 1000000000 := by have h := H4.out.2.1; rw [List.length_append, List.length_append] at h; omega
        have HD : Decidable (inv J ++ C ++ J = timesL (inv J ++ p ++ J) (N : Int)) := inferInstance
        rcases Decidable.em (inv J ++ C ++ J = timesL (inv J ++ p ++ J) (N : Int)) with he | he
        · have HS := Lib.hid (same_true (w := w7) (c := c4) (c' := c7) R4.out H7.out.1.reads H4.out.2.1 H7.out.1.len.1 hl4b he)
          have Hres := Lib.hid (Hhit.out he)
          clear he HD
          go_wp2_with fail
          refine HS.out.mono ?_
          rintro e w8 ⟨rfl, d8, hw8⟩
          have hb8 : Below wr.heap.size wr w8 := by rw [← hw8]; exact bdrew H7.out.2.2 d8
          have Hb8 := Lib.hid hb8
          have b8 : wr.heap.size ≤ w8.heap.size := hb8.size
          clear hw8 hb8
          go_wp2_with fail
          refine (HI.out w8 ((RJ.out.more hs2).below Hb8.out |>.more b8)).mono ?_
          rintro e w9 ⟨A9, n9, c9, rfl, ho9, hb9⟩
          have H9 := Lib.hid (And.intro ho9.reads (And.intro ho9.len.1 (Hb8.out.trans (hb9.mono b8))))
          have b9 : wr.heap.size ≤ w9.heap.size := H9.out.2.2.size
          clear ho9 hb9
          have HJ3 := Lib.hid (rjoin3 (w := w9) (c1 := c9) (c2 := c1) (c3 := c2) H9.out.1 ((RP.out.more hs2).below H9.out.2.2 |>.more b9) ((RJ.out.more hs2).below H9.out.2.2 |>.more b9) (Nat.le_refl _) H9.out.2.1 Hpl.out.symm H2.out.2.2.2 (by have := Hlens.out.2; omega))
          go_wp2_with fail
          refine HJ3.out.mono ?_
          rintro e w10 ⟨A10, n10, c10, rfl, ho10, hb10⟩
          have H10 := Lib.hid (And.intro ho10 (H9.out.2.2.trans (hb10.mono b9)))
          clear ho10 hb10
          go_wp2_with fail
          go_ret2
          exact ⟨A10, n10, c10, by rw [Hres.out]; rfl, by rw [Hres.out]; exact H10.out.1.reads, by rw [Hres.out]; exact H10.out.1.len.1, (H2.out.2.2.1.trans (hO.out.mono H2.out.2.2.1.size)).trans (H10.out.2.mono (by have := H2.out.2.2.1.size; have := hO.out.size; omega))⟩
        · have HS := Lib.hid (same_false (w := w7) (c := c4) (c' := c7) R4.out H7.out.1.reads H4.out.2.1 H7.out.1.len.1 hl4b (by have h := H7.out.1.len.1; have h2 := timesL_len (inv J ++ p ++ J) (N : Int); rw [List.length_append, List.length_append] at h2; have := Hlens.out.2; omega) he)
          have Hres := Lib.hid (Hmiss.out he)
          clear he HD
          go_wp2_with fail
          refine HS.out.mono ?_
          rintro e w8 ⟨rfl, d8, rfl⟩
          go_wp2_with fail
          go_roundg (N - 1)
          case measure => have := Hk.out; omega
          case rel => exact ⟨N - 1, by rw [show ((N - 1 : Nat) : Int) = (N : Int) - 1 by omega], rfl, by omega, Hres, Lib.hid (bdrew (hO.out.trans (H7.out.2.2.mono hs2)) d8)⟩
      · have hrb : ((r : Int) != 0) = true := by simp; omega
        have Hmiss := Lib.hid (show rrootN C J s (N - 1) = R by rw [← hRN.out]; exact (rrootN_miss hN1 rfl (fun hh => hr0 (by rw [hre, Hm.out]; exact hh.1))).symm)
        clear hre hr0
        go_wp2_with fail
        go_roundg (N - 1)
        case measure => have := Hk.out; omega
        case rel => exact ⟨N - 1, by rw [show ((N - 1 : Nat) : Int) = (N : Int) - 1 by omega], rfl, by omega, Hmiss, hO⟩
    · have hNi : (N : Int) ≤ 1 := by omega
      have Hend := Lib.hid (show R = (s, 1) by rw [← hRN.out]; exact rrootN_end (by omega))
      go_wp2_with fail
      go_ret2
      exact ⟨A, n, c, by rw [Hend.out]; rfl, by rw [Hend.out]; exact ((HR.out.1.below H2.out.2.2.1).more (H2.out.2.2.1.size)).below hO.out |>.more hO.out.size, by rw [Hend.out]; exact HR.out.2, H2.out.2.2.1.trans (hO.out.mono H2.out.2.2.1.size)⟩
end Go.Proofs.YtmjnhpagoboejaaDoor

/- Byte slices: new bytes (OwnB), bytes that are read (ReadsB); append of bytes and of a string; a string made of bytes. -/
namespace Go.Proofs.YtmjnhpagoboejaaDoor
open Go.RowKit

/-- a byte as a value -/
def bv (b : UInt8) : Value := .int .u8 (b.toNat : Int)

theorem bv_one (l : List UInt8) : ∀ u ∈ l.map bv, u.oneCell' = true := by
  intro u hu
  obtain ⟨b, _, rfl⟩ := List.mem_map.1 hu
  rfl

/-- new bytes -/
def OwnB (w : World) (B : Nat) (v : Value) (l : List UInt8) : Prop := w.ownsRow B 5 1 v l.length (l.map bv)

/-- a slice's address, and the bytes that it reads, below block B -/
def ReadsB (w : World) (B : Nat) (A : Option Addr) (l : List UInt8) : Prop := Reads w B 1 A l.length (l.map bv)

theorem infoB : (Tryd.prog.info? 5).map (fun i => (i.zero, i.size, i.bytes)) = some (some (.int .u8 0), 1, 1) := by kernel_rfl

theorem OwnB.form {w : World} {B : Nat} {v : Value} {l : List UInt8} (h : OwnB w B v l) : ∃ A c, v = .slice A l.length c ∧ l.length ≤ c := by
  rcases h.2 with ⟨rfl, h0⟩ | ⟨g, cap, cur, rfl, _, _, hc, _⟩
  · exact ⟨none, 0, by rw [h0], by omega⟩
  · exact ⟨_, cap, rfl, hc⟩
theorem OwnB.len {w : World} {B n c : Nat} {A : Option Addr} {l : List UInt8} (h : OwnB w B (.slice A n c) l) : n = l.length := by
  obtain ⟨A', c', e, _⟩ := h.form
  injection e
theorem own_nil {w : World} {B : Nat} {v : Value} {l : List UInt8} (h : OwnB w B v l) (hv : v.ownBlock = none) : v = .slice none 0 0 := by
  rcases h.2 with ⟨rfl, _⟩ | ⟨g, cap, cur, rfl, _⟩
  · rfl
  · cases hv
theorem OwnB.far {w : World} {B g : Nat} {v : Value} {l : List UInt8} (h : OwnB w B v l) (hg : g < B) : some g ≠ v.ownBlock := by
  rcases h.2 with ⟨rfl, _⟩ | ⟨g', cap, cur, rfl, hb, _⟩
  · intro e; cases e
  · intro e
    have : g = g' := Option.some.inj e
    omega
theorem OwnB.grown {w w' : World} {B : Nat} {v : Value} {l : List UInt8} {r : Option Nat} (h : OwnB w B v l) (hg : w.grownBy w' r) (hr : v.ownBlock ≠ r ∨ v.ownBlock = none) : OwnB w' B v l := World.ownsRow.kept h hg hr.symm
theorem OwnB.reads {w : World} {B n c : Nat} {A : Option Addr} {l : List UInt8} (h : OwnB w B (.slice A n c) l) : ReadsB w w.heap.size A l := by
  obtain rfl := h.len
  exact Reads.of_own h
theorem OwnB.mono {w : World} {B B' : Nat} {v : Value} {l : List UInt8} (h : OwnB w B v l) (hB : B' ≤ B) : OwnB w B' v l := by
  refine ⟨h.1, ?_⟩
  rcases h.2 with h' | ⟨g, cap, cur, hv, hg, r⟩
  · exact .inl h'
  · exact .inr ⟨g, cap, cur, hv, by omega, r⟩
theorem OwnB.kept {w w' : World} {B : Nat} {v : Value} {l : List UInt8} (h : OwnB w B v l) (hb : Below w.heap.size w w') : OwnB w' B v l := by
  refine ⟨h.1, ?_⟩
  rcases h.2 with h' | ⟨g, cap, cur, hv, hg, hh, r⟩
  · exact .inl h'
  · exact .inr ⟨g, cap, cur, hv, hg, (hb.block g (lt_of_block hh)).trans hh, r⟩
theorem OwnB.alloc {w : World} {B : Nat} {v : Value} {l : List UInt8} (h : OwnB w B v l) (o : Obj) : OwnB (w.alloc o) B v l := World.ownsRow.alloc h o
theorem OwnB.drew {w : World} {B : Nat} {v : Value} {l : List UInt8} (h : OwnB w B v l) : OwnB w.drew B v l := h
theorem OwnB.drewN {w : World} {B : Nat} {v : Value} {l : List UInt8} (h : OwnB w B v l) (n : Nat) : OwnB (w.drewN n) B v l := h
theorem OwnB.nil (w : World) (B : Nat) : OwnB w B (.slice none 0 0) [] := World.ownsRow_nil w B _ 1

theorem OwnB.lit (w : World) (B : Nat) (l : List UInt8) (cs : Array Value) (n : Nat) (hcs : cs.toList = l.map bv) (hn : n = l.length) (hB : B ≤ w.heap.size) (hl : l.length ≤ 140737488355328) :
    OwnB (w.alloc (.cells cs 5)) B (.slice (some ⟨w.heap.size, 0, none⟩) n n) l := by
  subst hn
  have hs : cs.size = l.length := by rw [← Array.length_toList, hcs, List.length_map]
  exact ⟨by simp, .inr ⟨_, l.length, cs, rfl, hB, heap_alloc_new w _, Nat.le_refl _, by unfold maxLen; omega, by omega, by rw [hcs, Nat.mul_one, List.take_of_length_le (by simp)]⟩⟩
theorem ReadsB.alloc {w : World} {B : Nat} {A : Option Addr} {l : List UInt8} (h : ReadsB w B A l) (hB : B ≤ w.heap.size) (o : Obj) : ReadsB (w.alloc o) B A l := Reads.alloc h hB o

theorem wpB_append {w : World} {ops : Array Oper} {rest : List Oper} {o : Oper} {a : Act} {Q : Exit → Act → World → Prop} (hgd : o.guard = none) (s x : Operand)
    (ho : o.op = .call { callee := .builtin .append, args := #[s, x], argTypes := #[107, 107] }) (B : Nat) (v : Value) (l : List UInt8) (hown : OwnB w B v l) (hs : a.eval s = v)
    (B' : Nat) (A : Option Addr) (news : List UInt8) (hr : ReadsB w B' A news) (m c : Nat) (hm : m = news.length) (hx : a.eval x = .slice A m c) (hlen : l.length + news.length ≤ 140737488355328) (hbase : B ≤ w.heap.size)
    (h : ∀ A' n' c' w', OwnB w' B (.slice A' n' c') (l ++ news) → w.grownBy w' v.ownBlock → (v ≠ .slice none 0 0 → A' ≠ none) → wpList Tryd.prog ops Q rest (a.put o.dst (.slice A' n' c')) w') :
    wpList Tryd.prog ops Q (o :: rest) a w := by
  obtain ⟨i0, hi, hz0, hz1, hz2⟩ := info_parts infoB
  subst hm
  refine wpList_append_any w hgd s x 107 ho B 5 i0 (.int .u8 0) 1 1 Tryd.underlying107 hi hz0 hz1 hz2 rfl (by decide) v l.length (l.map bv) hs hown B' A news.length c (news.map bv) hx hr (bv_one _) (by unfold maxLen; omega) (by omega) hbase ?_
  intro v' w' h1 h2 h3
  have h4 : OwnB w' B v' (l ++ news) := by
    unfold OwnB
    rw [List.length_append, List.map_append]
    exact h1
  obtain ⟨A', c', rfl, _⟩ := h4.form
  refine h A' _ c' w' h4 h2 (fun hv => ?_)
  rintro rfl
  rcases h3 with h3 | h3
  · exact hv (own_nil hown h3.symm)
  · cases h3

theorem wpB_append_str {w : World} {ops : Array Oper} {rest : List Oper} {o : Oper} {a : Act} {Q : Exit → Act → World → Prop} (hgd : o.guard = none) (s x : Operand)
    (ho : o.op = .call { callee := .builtin .append, args := #[s, x], argTypes := #[107, 9] }) (B : Nat) (v : Value) (l : List UInt8) (hown : OwnB w B v l) (hs : a.eval s = v)
    (t : ByteArray) (hx : a.eval x = .string t) (hlen : l.length + t.size ≤ 140737488355328) (hbase : B ≤ w.heap.size)
    (h : ∀ A' n' c' w', OwnB w' B (.slice A' n' c') (l ++ t.data.toList) → w.grownBy w' v.ownBlock → wpList Tryd.prog ops Q rest (a.put o.dst (.slice A' n' c')) w') :
    wpList Tryd.prog ops Q (o :: rest) a w := by
  obtain ⟨i0, hi, hz0, hz1, hz2⟩ := info_parts infoB
  refine Lib.wpList_append_own_string w hgd s x 107 9 ho B 5 i0 Tryd.underlying107 Tryd.underlying9 hi hz0 hz1 hz2 v l.length (l.map bv) hs hown t hx (by unfold maxLen; omega) (by omega) hbase ?_
  intro v' w' h1 h2 _
  have h4 : OwnB w' B v' (l ++ t.data.toList) := by
    unfold OwnB
    rw [List.length_append, List.map_append]
    have e : t.data.toList.length = t.size := Array.length_toList
    rw [e]
    exact h1
  obtain ⟨A', c', rfl, _⟩ := h4.form
  exact h A' _ c' w' h4 h2

theorem stepB_append {w : World} {ops : Array Oper} {o : Oper} {a : Act} {K : Act → World → Prop} {Q : Exit → Act → World → Prop} {E : Prop} (hgd : o.guard = none) (s x : Operand)
    (ho : o.op = .call { callee := .builtin .append, args := #[s, x], argTypes := #[107, 107] }) (B : Nat) (v : Value) (l : List UInt8) (hown : OwnB w B v l) (hs : a.eval s = v)
    (B' : Nat) (A : Option Addr) (news : List UInt8) (hr : ReadsB w B' A news) (m c : Nat) (hm : m = news.length) (hx : a.eval x = .slice A m c) (hlen : l.length + news.length ≤ 140737488355328) (hbase : B ≤ w.heap.size)
    (h : ∀ A' n' c' w', OwnB w' B (.slice A' n' c') (l ++ news) → w.grownBy w' v.ownBlock → (v ≠ .slice none 0 0 → A' ≠ none) → K (a.put o.dst (.slice A' n' c')) w') :
    if Region.wanted o (yielded ops a.tmps) = true then Oper.wp Tryd.prog o a w K Q else E := by
  have hw : Region.wanted o (yielded ops a.tmps) = true := by simp [Region.wanted, hgd]
  rw [if_pos hw]
  obtain ⟨i0, hi, hz0, hz1, hz2⟩ := info_parts infoB
  subst hm
  refine wp_append_any w s x 107 ho B 5 i0 (.int .u8 0) 1 1 Tryd.underlying107 hi hz0 hz1 hz2 rfl (by decide) v l.length (l.map bv) hs hown B' A news.length c (news.map bv) hx hr (bv_one _) (by unfold maxLen; omega) (by omega) hbase ?_
  intro v' w' h1 h2 h3
  have h4 : OwnB w' B v' (l ++ news) := by
    unfold OwnB
    rw [List.length_append, List.map_append]
    exact h1
  obtain ⟨A', c', rfl, _⟩ := h4.form
  refine h A' _ c' w' h4 h2 (fun hv => ?_)
  rintro rfl
  rcases h3 with h3 | h3
  · exact hv (own_nil hown h3.symm)
  · cases h3

theorem stepB_append_str {w : World} {ops : Array Oper} {o : Oper} {a : Act} {K : Act → World → Prop} {Q : Exit → Act → World → Prop} {E : Prop} (hgd : o.guard = none) (s x : Operand)
    (ho : o.op = .call { callee := .builtin .append, args := #[s, x], argTypes := #[107, 9] }) (B : Nat) (v : Value) (l : List UInt8) (hown : OwnB w B v l) (hs : a.eval s = v)
    (t : ByteArray) (hx : a.eval x = .string t) (hlen : l.length + t.size ≤ 140737488355328) (hbase : B ≤ w.heap.size)
    (h : ∀ A' n' c' w', OwnB w' B (.slice A' n' c') (l ++ t.data.toList) → w.grownBy w' v.ownBlock → K (a.put o.dst (.slice A' n' c')) w') :
    if Region.wanted o (yielded ops a.tmps) = true then Oper.wp Tryd.prog o a w K Q else E := by
  have hw : Region.wanted o (yielded ops a.tmps) = true := by simp [Region.wanted, hgd]
  rw [if_pos hw]
  obtain ⟨i0, hi, hz0, hz1, hz2⟩ := info_parts infoB
  obtain ⟨v', w', hr, h1, h2, _⟩ := Lib.run_append_own_string (P := Tryd.prog) w B 107 9 o.type 5 i0 Tryd.underlying107 Tryd.underlying9 hi hz0 hz1 hz2 v l.length (l.map bv) hown t (by unfold maxLen; omega) (by omega) hbase
  have h4 : OwnB w' B v' (l ++ t.data.toList) := by
    unfold OwnB
    rw [List.length_append, List.map_append]
    have e : t.data.toList.length = t.size := Array.length_toList
    rw [e]
    exact h1
  obtain ⟨A', c', rfl, _⟩ := h4.form
  unfold Oper.wp execOp
  simp only [ho, resolve, invoke, builtin, Sem.run_bind, Sem.run_pure, Result.andThen_ok, List.map_toArray, List.map_cons, List.map_nil, hs, hx, hr]
  exact h A' _ c' w' h4 h2

theorem wpB_make {w : World} {ops : Array Oper} {rest : List Oper} {o : Oper} {a : Act} {Q : Exit → Act → World → Prop} (hgd : o.guard = none) (s x : Operand)
    (ho : o.op = .makeSlice 107 s x) (B : Nat) (kl kc : IntKind) (C : Int) (n : Nat) (hs : a.eval s = .int kl 0) (hx : a.eval x = .int kc C) (hC : C = (n : Int)) (hlen : n ≤ 281474976710656) (hbase : B ≤ w.heap.size)
    (h : ∀ w', OwnB w' B (.slice (some ⟨w.heap.size, 0, none⟩) 0 n) [] → w.grownBy w' none → wpList Tryd.prog ops Q rest (a.put o.dst (.slice (some ⟨w.heap.size, 0, none⟩) 0 n)) w') :
    wpList Tryd.prog ops Q (o :: rest) a w := by
  obtain ⟨i0, hi, hz0, hz1, hz2⟩ := info_parts infoB
  exact wpList_make_own w hgd s x 107 ho B 5 i0 (.int .u8 0) 1 Tryd.underlying107 hi hz0 hz1 kl kc C n hs hx hC (by rw [hz2]; omega) (by unfold maxLen; omega) hbase h

/-- string(b) -/
theorem run_str {w : World} {B n c : Nat} {A : Option Addr} {l : List UInt8} (hn : n = l.length) (hr : ReadsB w B A l) : (convert 107 9 (.slice A n c)).run Tryd.prog w = .ok (.string ⟨l.toArray⟩) w := by
  subst hn
  rw [run_convert_bytes_string w 107 9 5 A _ c Tryd.underlying107 Tryd.underlying5 Tryd.underlying9]
  rcases A with _ | ad
  · have hl : l = [] := by
      rcases Nat.eq_zero_or_pos l.length with h0 | h0
      · exact List.eq_nil_of_length_eq_zero h0
      · obtain ⟨_, h, _⟩ := hr.2 h0
        cases h
    subst hl
    simp [Conv.bytesToString]
    rfl
  · have e : l.map bv = (l.map fun b => (b.toNat : Int)).map (Value.int .u8) := by rw [List.map_map]; rfl
    have hc : ∀ (j : Nat) (u : Value), (l.map bv)[j]? = some u → w.cell? (ad.add j) = some u := by
      intro j u hu
      have h0 : 0 < l.length := by
        rcases Nat.eq_zero_or_pos l.length with h0 | h0
        · have hl := List.eq_nil_of_length_eq_zero h0
          subst hl
          simp at hu
        · exact h0
      obtain ⟨ad', h, _, hc⟩ := hr.2 h0
      injection h with h
      subst h
      exact hc j u hu
    have hl := run_loadCells_list (P := Tryd.prog) w ad (l.map bv) hc
    rw [List.length_map, e] at hl
    rw [run_bytesToString w ad l.length c _ hl, foldl_push_bytes]
    simp [ByteArray.empty, ByteArray.emptyWithCapacity]
    show [] ++ _ = l
    rw [List.nil_append]
    conv => rhs; rw [← List.map_id l]
    refine List.map_congr_left fun b _ => ?_
    simp

end Go.Proofs.YtmjnhpagoboejaaDoor

/- ref.digits, Text. -/
namespace Go.Proofs.YtmjnhpagoboejaaDoor
open Go.RowKit
open Wd
set_option linter.unusedSimpArgs false
set_option linter.unusedVariables false

/-- one byte in a slice of its own, as a string -/
theorem str_one (w : World) (b : UInt8) (x : Int) (hx : x = (b.toNat : Int)) : (convert 107 9 (.slice (some ⟨w.heap.size, 0, none⟩) 1 1)).run Tryd.prog (w.alloc (.cells #[.int .u8 x] 5)) = .ok (.string ⟨#[b]⟩) (w.alloc (.cells #[.int .u8 x] 5)) := by
  subst hx
  have h := (OwnB.lit w w.heap.size [b] #[.int .u8 (b.toNat : Int)] 1 rfl rfl (Nat.le_refl _) (by simp))
  exact run_str h.len h.reads
theorem dec_small {u : Nat} (h : u < 10) : Lib.decDigits u = [UInt8.ofNat (48 + u)] := by rw [Lib.decDigits, dif_pos h]
theorem dec_big {u : Nat} (h : ¬ u < 10) : Lib.decDigits u = Lib.decDigits (u / 10) ++ [UInt8.ofNat (48 + u % 10)] := by rw [Lib.decDigits, dif_neg h]
theorem ofNat_val {u : Nat} (h : u < 256) : ((u : Nat) : Int) = ((UInt8.ofNat u).toNat : Int) := by
  rw [UInt8.toNat_ofNat']
  omega
set_option maxRecDepth 100000 in
theorem digit_small {w : World} {u : Nat} (h : u < 10) :
    Calls Tryd.prog 62 #[.int .i64 (u : Int)] w (fun e w' => e = .returned (bs (Lib.decDigits u)) ∧ Below w.heap.size w w') := by
  obtain ⟨b, hbb⟩ : ∃ b, b = UInt8.ofNat (48 + u) := ⟨_, rfl⟩
  have hs := str_one w b (48 + (u : Int)) (by rw [hbb]; have := ofNat_val (u := 48 + u) (by omega); omega)
  have Hd := Lib.hid (show Lib.decDigits u = [b] by rw [hbb]; exact dec_small h)
  have Hb := Lib.hid ((Below.refl w.heap.size w).alloc (Nat.le_refl _) (.cells #[.int .u8 (48 + (u : Int))] 5))
  have h1 : (u : Int) < 10 := by omega
  have h2 : (0 : Int) ≤ (u : Int) := by omega
  have h3 : IntKind.u8.wrap (48 + (u : Int)) = 48 + (u : Int) := by rw [IntKind.wrap_u8]; omega
  clear h hbb
  go_enter Tryd.func62, Tryd.ntmps62
  go_wp2
  go_ret
  exact ⟨by rw [Hd.out]; rfl, Hb.out⟩
theorem cat_bs (a b : List UInt8) : (.string ((⟨a.toArray⟩ : ByteArray) ++ ⟨b.toArray⟩) : Value) = bs (a ++ b) := by
  unfold bs
  congr 1
set_option maxRecDepth 100000 in
theorem digit_mid {w : World} {u : Nat} (h0 : 10 ≤ u) (h : u < 100) :
    Calls Tryd.prog 62 #[.int .i64 (u : Int)] w (fun e w' => e = .returned (bs (Lib.decDigits u)) ∧ Below w.heap.size w w') := by
  obtain ⟨q, hq⟩ : ∃ q, q = u / 10 := ⟨_, rfl⟩
  obtain ⟨r, hr⟩ : ∃ r, r = u % 10 := ⟨_, rfl⟩
  have H1 := Lib.hid (digit_small (w := w) (u := q) (by omega))
  have H2 := Lib.hid (fun w' : World => digit_small (w := w') (u := r) (by omega))
  have Hd := Lib.hid (show Lib.decDigits u = Lib.decDigits q ++ Lib.decDigits r by rw [dec_big (by omega), hq, hr, dec_small (u := u % 10) (by omega)])
  have hl : ∀ x, x < 10 → (⟨(Lib.decDigits x).toArray⟩ : ByteArray).size ≤ 100 := fun x hx => by rw [dec_small hx]; exact (show (1 : Nat) ≤ 100 by decide)
  have hl1 := hl q (by omega)
  have hl2 := hl r (by omega)
  have hqi : (q : Int) = (u : Int) / 10 := by omega
  have hri : (r : Int) = (u : Int) % 10 := by omega
  have h1 : (10 : Int) ≤ (u : Int) := by omega
  have h2 : (u : Int) < 100 := by omega
  rw [hqi] at H1
  rw [hri] at H2
  generalize Lib.decDigits q = Q at *
  generalize Lib.decDigits r = R at *
  have Hfin := Lib.hid (show (.string (⟨Q.toArray⟩ ++ ⟨R.toArray⟩) : Value) = bs (Q ++ R) from cat_bs Q R)
  unfold bs at H1 H2
  obtain ⟨sq, hsq⟩ : ∃ s : ByteArray, s = ⟨Q.toArray⟩ := ⟨_, rfl⟩
  obtain ⟨sr, hsr⟩ : ∃ s : ByteArray, s = ⟨R.toArray⟩ := ⟨_, rfl⟩
  rw [← hsq] at hl1 H1 Hfin
  rw [← hsr] at hl2 H2 Hfin
  clear h0 h hq hr hl hqi hri hsq hsr
  go_enter Tryd.func62, Tryd.ntmps62
  go_wp2_with fail
  refine H1.out.mono ?_
  rintro e w2 ⟨rfl, hb2⟩
  have Hb2 := Lib.hid hb2
  clear hb2
  go_wp2_with fail
  refine (H2.out w2).mono ?_
  rintro e w3 ⟨rfl, hb3⟩
  have Hb3 := Lib.hid hb3
  clear hb3
  go_wp2_with fail
  go_ret
  exact ⟨by rw [Hd.out, ← Hfin.out]; rfl, Hb2.out.trans (Hb3.out.mono Hb2.out.size)⟩
theorem cat_one (b : UInt8) (s : List UInt8) : ((⟨#[b]⟩ : ByteArray) ++ ⟨s.toArray⟩) = ⟨(b :: s).toArray⟩ := by
  apply ByteArray.ext
  simp
set_option maxRecDepth 100000 in
set_option maxHeartbeats 2000000 in
theorem digit_neg {w : World} {u : Nat} (h0 : 1 ≤ u) (h : u < 100) :
    Calls Tryd.prog 62 #[.int .i64 (-(u : Int))] w (fun e w' => e = .returned (bs (45 :: Lib.decDigits u)) ∧ Below w.heap.size w w') := by
  have hlt : -(u : Int) < 0 := by omega
  obtain ⟨D, hD⟩ : ∃ D, D = Lib.decDigits u := ⟨_, rfl⟩
  rw [← hD]
  have HD := Lib.hid hD
  obtain ⟨z0, hz0⟩ : ∃ z : Int, z = -(u : Int) := ⟨_, rfl⟩
  rw [← hz0] at hlt ⊢
  have Hz0 := Lib.hid hz0
  clear hz0 hD
  go_enter Tryd.func62, Tryd.ntmps62
  go_wp2_with fail
  go_loopg [0, 3] u (fun k zv sv wr => ∃ (j : Nat) (z : Int) (s : List UInt8), zv = .int .i64 z ∧ sv = .string ⟨s.toArray⟩ ∧ k = j ∧ Hid (z = -(j : Int) ∧ j < 100 ∧ s.length ≤ 3 ∧ (j ≤ 9 ∨ s = []) ∧ s.length + (if j = 0 then 0 else if j < 10 then 1 else 2) ≤ 2 ∧ (if j = 0 then s else Lib.decDigits j ++ s) = D) ∧ Hid (Below w.heap.size w wr))
  case atStart => exact ⟨u, z0, [], rfl, rfl, rfl, Lib.hid ⟨Hz0.out, h, by simp, .inr rfl, by simp; split <;> (try split) <;> omega, by rw [if_neg (by omega), List.append_nil]; exact HD.out.symm⟩, Lib.hid (Below.refl _ _)⟩
  case round =>
    obtain ⟨j, z, s, rfl, rfl, hk, hj, hb⟩ := hrel
    have Hk := Lib.hid hk
    clear hk
    rcases Nat.eq_zero_or_pos j with hj0 | hj0
    · have hz : z = 0 := by have := hj.out.1; omega
      have Hs := Lib.hid (show s = D by have h := hj.out.2.2.2.2.2; rw [if_pos hj0] at h; exact h)
      have hsz : (⟨s.toArray⟩ : ByteArray).size ≤ 100 := by have := hj.out.2.2.1; show s.toArray.size ≤ 100; simp; omega
      have Hcat := Lib.hid (show (.string ((⟨#[45]⟩ : ByteArray) ++ ⟨s.toArray⟩) : Value) = bs (45 :: D) by rw [cat_one, Hs.out]; rfl)
      generalize (⟨s.toArray⟩ : ByteArray) = S at *
      subst hz
      clear hj0
      go_wp2_with fail
      go_ret
      exact ⟨by rw [← Hcat.out]; rfl, hb.out⟩
    · obtain ⟨q, hq⟩ : ∃ q, q = j / 10 := ⟨_, rfl⟩
      obtain ⟨r, hr⟩ : ∃ r, r = j % 10 := ⟨_, rfl⟩
      have hz := hj.out.1
      have hzn : z < 0 := by omega
      have ht : Int.tmod z 10 = -(r : Int) := by rw [hz, hr, Int.neg_tmod]; rfl
      have hd : Int.tdiv z 10 = -(q : Int) := by rw [hz, hq, Int.neg_tdiv]; rfl
      obtain ⟨b, hbb⟩ : ∃ b, b = UInt8.ofNat (48 + r) := ⟨_, rfl⟩
      have hr9 : r ≤ 9 := by omega
      have hs := str_one wr b (48 + (r : Int)) (by rw [hbb]; have := ofNat_val (u := 48 + r) (by omega); omega)
      have h3 : IntKind.u8.wrap (48 + (r : Int)) = 48 + (r : Int) := by rw [IntKind.wrap_u8]; omega
      have hri : (0 : Int) ≤ (r : Int) := by omega
      have hri2 : (r : Int) ≤ 9 := by omega
      have hq100 : (q : Int) ≤ 100 := by have := hj.out.2.1; omega
      have hsz : (⟨s.toArray⟩ : ByteArray).size ≤ 100 := by have := hj.out.2.2.1; show s.toArray.size ≤ 100; simp; omega
      have Hcat := Lib.hid (cat_one b s)
      have Hnext := Lib.hid (show (if q = 0 then b :: s else Lib.decDigits q ++ (b :: s)) = D by
        have h := hj.out.2.2.2.2.2
        rw [if_neg (by omega)] at h
        rw [← h]
        by_cases h10 : j < 10
        · rw [if_pos (by omega), dec_small h10, hbb, show r = j by omega]; rfl
        · rw [if_neg (by omega), dec_big h10, ← hq, ← hr, ← hbb, List.append_assoc]; rfl)
      have Hnum := Lib.hid (show -(q : Int) = -(q : Int) ∧ q < 100 ∧ (b :: s).length ≤ 3 ∧ (q ≤ 9 ∨ b :: s = []) ∧ (b :: s).length + (if q = 0 then 0 else if q < 10 then 1 else 2) ≤ 2 by
        have h1 := hj.out.2.2.2.2.1
        have h2 := hj.out.2.1
        rw [if_neg (by omega)] at h1
        rw [List.length_cons]
        refine ⟨rfl, by omega, ?_, .inl (by omega), ?_⟩
        · split at h1 <;> omega
        · by_cases h10 : j < 10
          · rw [if_pos (by omega)]; rw [if_pos h10] at h1; omega
          · rw [if_neg (by omega), if_pos (by omega)]; rw [if_neg h10] at h1; omega)
      have Hlt := Lib.hid (show q < j by omega)
      have Hb2 := Lib.hid (hb.out.alloc hb.out.size (.cells #[.int .u8 (48 + (r : Int))] 5))
      generalize (⟨s.toArray⟩ : ByteArray) = S at *
      clear hq hr hz hbb hr9 hj0 hj
      go_wp2_with fail
      go_roundg q
      case measure => have := Hk.out; have := Hlt.out; omega
      case rel => exact ⟨q, -(q : Int), b :: s, rfl, by rw [← Hcat.out], rfl, Lib.hid ⟨rfl, Hnum.out.2.1, Hnum.out.2.2.1, Hnum.out.2.2.2.1, Hnum.out.2.2.2.2, Hnext.out⟩, Hb2⟩
/-- a letter's digits -/
theorem digits_any {w : World} {k : Int} (h1 : -64 ≤ k) (h2 : k ≤ 64) :
    Calls Tryd.prog 62 #[.int .i64 k] w (fun e w' => e = .returned (bs (Lib.itoa k)) ∧ Below w.heap.size w w') := by
  unfold Lib.itoa
  by_cases h : k < 0
  · rw [if_pos h]
    have := digit_neg (w := w) (u := k.natAbs) (by omega) (by omega)
    rw [show (-(k.natAbs : Int)) = k by omega] at this
    exact this
  · rw [if_neg h]
    by_cases h10 : k < 10
    · have := digit_small (w := w) (u := k.toNat) (by omega)
      rw [show ((k.toNat : Nat) : Int) = k by omega] at this
      exact this
    · have := digit_mid (w := w) (u := k.toNat) (by omega) (by omega)
      rw [show ((k.toNat : Nat) : Int) = k by omega] at this
      exact this
/-- the first so many letters' text -/
def txtTo (l : List Int) (i : Nat) : List UInt8 := Lib.join ((l.take i).map Lib.itoa) [32]
theorem txtTo_succ {l : List Int} {i : Nat} (h : i < l.length) (h1 : 1 ≤ i) : txtTo l (i + 1) = txtTo l i ++ [32] ++ Lib.itoa l[i] := by
  cases l with
  | nil => simp at h
  | cons x r =>
    obtain ⟨j, rfl⟩ : ∃ j, i = j + 1 := ⟨i - 1, by omega⟩
    have hj : j < r.length := by simpa using h
    unfold txtTo
    rw [List.take_succ_cons, List.take_succ_cons, List.map_cons, List.map_cons, Lib.join_cons, Lib.join_cons]
    rw [show (x :: r)[j + 1]'h = r[j]'hj from rfl]
    rw [List.map_take, Lib.joinTail_take_succ [32] (r.map Lib.itoa) j (Lib.itoa r[j]) (by rw [List.getElem?_map, List.getElem?_eq_getElem hj]; rfl), List.map_take]
    simp only [List.append_assoc]
theorem txtTo_len (l : List Int) (hl : ∀ k ∈ l, -64 ≤ k ∧ k ≤ 64) (h : l.length ≤ 100000) (i : Nat) : (txtTo l i).length ≤ 140737488355328 :=
  join_small _ (by rw [List.length_take]; omega) (fun k hk => hl k (List.mem_of_mem_take hk))
theorem txtTo_small (l : List Int) (hl : ∀ k ∈ l, -64 ≤ k ∧ k ≤ 64) (h : l.length ≤ 100000) (i : Nat) : (txtTo l i).length ≤ 2200000 := by
  have hs : ∀ (l : List Int), (∀ k ∈ l, -64 ≤ k ∧ k ≤ 64) → Lib.lens (l.map Lib.itoa) ≤ 21 * l.length := by
    intro l
    induction l with
    | nil => intro _; exact Nat.le_refl _
    | cons k r ih =>
      intro h
      have h1 := ih (fun x hx => h x (by simp [hx]))
      have h2 := h k (by simp)
      have h3 := Lib.itoa_length_le k (by omega) (by omega)
      have e : Lib.lens (Lib.itoa k :: List.map Lib.itoa r) = (Lib.itoa k).length + Lib.lens (List.map Lib.itoa r) := by simp [Lib.lens]
      rw [List.map_cons, e, List.length_cons]
      omega
  unfold txtTo
  have hlt : (l.take i).length ≤ 100000 := by rw [List.length_take]; omega
  have hlm : ∀ k ∈ l.take i, -64 ≤ k ∧ k ≤ 64 := fun k hk => hl k (List.mem_of_mem_take hk)
  generalize l.take i = m at *
  cases m with
  | nil => simp [Lib.join]
  | cons k r =>
    have h1 := hs (k :: r) hlm
    rw [List.map_cons] at h1 ⊢
    rw [Lib.join_length, List.length_map]
    simp only [List.length_cons, List.length_nil] at hlt h1 ⊢
    omega
theorem letl_s {l : List Int} (h : LetL l) : ∀ k ∈ l, -64 ≤ k ∧ k ≤ 64 := fun k hk => (h k hk).2
set_option maxRecDepth 100000 in
set_option maxHeartbeats 2000000 in
theorem rtext_any {w : World} {B n c : Nat} {A : Option Addr} {l : List Int} (hr : ReadsI w B A l) (hB : B ≤ w.heap.size) (hn : n = l.length) (hl : LetL l) (hnl : n ≤ 100000) :
    Calls Tryd.prog 28 #[.slice A n c] w (fun e w' => e = .returned (bs (txt l)) ∧ Below w.heap.size w w') := by
  have Hn := Lib.hid hn
  have Hl := Lib.hid hl
  have Hr := Lib.hid (hr.more hB)
  clear hr hl hn hB
  rcases Nat.eq_zero_or_pos n with h0 | h0
  · have hl0 : l = [] := List.eq_nil_of_length_eq_zero (by rw [← Hn.out]; exact h0)
    have Hl0 := Lib.hid hl0
    subst h0
    clear hl0
    go_enter Tryd.func28, Tryd.ntmps28
    go_wp2_with fail
    go_ret
    exact ⟨by rw [Hl0.out]; rfl, Below.refl _ _⟩
  · have hnb : ((n : Int) == 0) = false := by simp; omega
    have hil : 0 < l.length := by rw [← Hn.out]; exact h0
    obtain ⟨ad, rfl, hb1, c0⟩ := Hr.out.at_ hil
    have hlet := Hl.out l[0] (List.getElem_mem hil)
    have HD := Lib.hid (digits_any (w := w) (k := l[0]) hlet.2.1 hlet.2.2)
    have H1 := Lib.hid (show Lib.itoa l[0] = txtTo l 1 by
      unfold txtTo
      cases l with
      | nil => simp at hil
      | cons x r => simp [Lib.join_one])
    rw [H1.out] at HD
    generalize l[0] = k at *
    rw [Addr.add_zero'] at c0
    have h0i : (0 : Int) < (n : Int) := by omega
    clear hb1 hlet hil
    go_enter Tryd.func28, Tryd.ntmps28
    go_wp2_with fail
    refine HD.out.mono ?_
    rintro e w2 ⟨rfl, hb2⟩
    have Hb2 := Lib.hid hb2
    clear hb2
    go_wp2_with fail
    go_loopg [3, 4] (n - 1) (fun k sv iv wr => ∃ (i : Nat) (S : ByteArray), sv = .string S ∧ iv = .int .i64 (i : Int) ∧ k = n - i ∧ 1 ≤ i ∧ i ≤ n ∧ S.size ≤ 2200000 ∧ Hid (S = ⟨(txtTo l i).toArray⟩) ∧ Hid (Below w.heap.size w wr))
    case atStart => exact ⟨1, ⟨(txtTo l 1).toArray⟩, rfl, rfl, by omega, by omega, by omega, by have := txtTo_small l (letl_s Hl.out) (by have := Hn.out; omega) 1; show (txtTo l 1).toArray.size ≤ _; simpa using this, Lib.hid rfl, Hb2⟩
    case round =>
      obtain ⟨i, S, rfl, rfl, hk, hi1, hi, hS, hSe, hO⟩ := hrel
      have Hk := Lib.hid hk
      clear hk
      by_cases hin : i < n
      · have hil : i < l.length := by rw [← Hn.out]; exact hin
        obtain ⟨ad', e', hb1, c1⟩ := (Hr.out.below hO.out).at_ hil
        injection e' with e'
        subst e'
        have hlet := Hl.out l[i] (List.getElem_mem hil)
        have HD2 := Lib.hid (digits_any (w := wr) (k := l[i]) hlet.2.1 hlet.2.2)
        have Hst := Lib.hid (txtTo_succ hil hi1)
        have hit := Lib.itoa_length_le l[i] (by omega) (by omega)
        have hii : (i : Int) < (n : Int) := by omega
        have Hsm := Lib.hid (txtTo_small l (letl_s Hl.out) (by have := Hn.out; omega) (i + 1))
        generalize l[i] = k at *
        obtain ⟨D, hD⟩ : ∃ D : ByteArray, D = ⟨(Lib.itoa k).toArray⟩ := ⟨_, rfl⟩
        have hDs : D.size ≤ 100 := by rw [hD]; show (Lib.itoa k).toArray.size ≤ _; simp; omega
        unfold bs at HD2
        have Hnew := Lib.hid (show S ++ ⟨#[32]⟩ ++ D = ⟨(txtTo l (i + 1)).toArray⟩ by
          rw [Hst.out, hSe.out, hD]
          apply ByteArray.ext
          simp)
        rw [← hD] at HD2
        clear hb1 hil hlet hit hD
        go_wp2_with fail
        refine HD2.out.mono ?_
        rintro e w3 ⟨rfl, hb3⟩
        have Hb3 := Lib.hid hb3
        clear hb3
        go_wp2_with fail
        go_roundg (n - (i + 1))
        case measure => have := Hk.out; omega
        case rel => exact ⟨i + 1, ⟨(txtTo l (i + 1)).toArray⟩, by rw [← Hnew.out], rfl, rfl, by omega, by omega, by have := Hsm.out; show (txtTo l (i + 1)).toArray.size ≤ _; simpa using this, Lib.hid rfl, Lib.hid (hO.out.trans (Hb3.out.mono hO.out.size))⟩
      · have hii : (n : Int) ≤ (i : Int) := by omega
        have Htx := Lib.hid (show (⟨(txtTo l i).toArray⟩ : ByteArray) = ⟨(txt l).toArray⟩ by unfold txtTo txt; rw [List.take_of_length_le (by have := Hn.out; omega), if_neg (by intro h; rw [h] at Hn; have := Hn.out; simp at this; omega)])
        go_wp2_with fail
        go_ret
        exact ⟨by rw [hSe.out, Htx.out]; rfl, hO.out⟩
end Go.Proofs.YtmjnhpagoboejaaDoor

/- words.Root: what it refuses. -/
namespace Go.Proofs.YtmjnhpagoboejaaDoor
open Go.RowKit
open Wd
set_option linter.unusedSimpArgs false
set_option linter.unusedVariables false

set_option maxRecDepth 100000 in
theorem root_bad {w : World} {B n c : Nat} {A : Option Addr} {l : List Int} (hr : ReadsI w B A l) (hB : B ≤ w.heap.size) (hn : n = l.length) (hw : Wf l) (hnl : n ≤ 1000000000000) (hz : chk [l] ≠ 0) :
    Calls Tryd.prog 18 #[.slice A n c] w (fun e w' => e = .returned (.tuple #[.slice none 0 0, .int .i64 0, .int .i64 (chk [l])]) ∧ Below w.heap.size w w') := by
  have HC := Lib.hid (core_bad (c := c) hr hB hn hw hnl hz)
  generalize chk [l] = z at *
  have hzb : (z != 0) = true := by simp; exact hz
  clear hr hw hnl hB hn hz
  go_enter Tryd.func18, Tryd.ntmps18
  go_wp2_with fail
  refine HC.out.mono ?_
  rintro e w' ⟨rfl, hb⟩
  have Hb := Lib.hid hb
  clear hb
  go_wp2_with fail
  go_ret3
  exact ⟨rfl, Hb.out⟩
set_option maxRecDepth 100000 in
theorem root_none {w : World} {B n c : Nat} {A : Option Addr} {l : List Int} (hr : ReadsI w B A l) (hB : B ≤ w.heap.size) (hn : n = l.length) (hz : chk [l] = 0) (h0 : core (short l) = []) :
    Calls Tryd.prog 18 #[.slice A n c] w (fun e w' => e = .returned (.tuple #[.slice none 0 0, .int .i64 0, .int .i64 7]) ∧ Below w.heap.size w w') := by
  have HC := Lib.hid (core_ok (c := c) hr hB hn hz)
  have Hl := Lib.hid h0
  clear hr hB hn hz h0
  go_enter Tryd.func18, Tryd.ntmps18
  go_wp2_with fail
  refine HC.out.mono ?_
  rintro e w' ⟨A1, c1, A2, c2, rfl, _, _, hb⟩
  have Hb := Lib.hid hb
  clear hb
  rw [Hl.out]
  go_wp2_with fail
  go_ret3
  exact ⟨rfl, Hb.out⟩
end Go.Proofs.YtmjnhpagoboejaaDoor

/- law.WordsShort (printed by gen_short.py). -/
namespace Go.Proofs.YtmjnhpagoboejaaDoor
open Go.RowKit
open Wd
set_option linter.unusedSimpArgs false
set_option linter.unusedVariables false

theorem same_below {w : World} {B B' n n' c c' : Nat} {A A' : Option Addr} {l : List Int} (hr : ReadsI w B A l) (hr' : ReadsI w B' A' l) (hn : n = l.length) (hn' : n' = l.length) (hb : n ≤ 1000000000) :
    Calls Tryd.prog 27 #[.slice A n c, .slice A' n' c'] w (fun e w' => e = .returned (.bool true) ∧ Below w.heap.size w w') := by
  refine (same_true hr hr' hn hn' hb rfl).mono ?_
  rintro e w' ⟨rfl, d, rfl⟩
  exact ⟨rfl, drewN_below w d⟩
theorem rtext_s {P : Program} {f : FuncId} {args : Array Value} {w : World} {T : ByteArray} {b : List UInt8} (hT : T = ⟨b.toArray⟩) (h : Calls P f args w (fun e w' => e = .returned (bs b) ∧ Below w.heap.size w w')) : Calls P f args w (fun e w' => e = .returned (.string T) ∧ Below w.heap.size w w') := by
  subst hT; exact h
set_option maxRecDepth 100000 in
set_option maxHeartbeats 8000000 in
theorem short_much {w : World} {B n c : Nat} {A : Option Addr} {l : List Int} (ht : TabX B w) (h : Rd w B A l) (hn : n = l.length) (hc : n ≤ c) (hcm : c ≤ 9223372036854775807) (hbig : 9000 < n) (hb : n ≤ 1000000000000000) :
    Calls Tryd.prog 3 #[.slice A n c] w (fun e w' => e = .returned (.bool true) ∧ Below w.heap.size w w') := by
  have hmu : decide ((9000 : Int) < (min n 10000 : Nat)) = true := decide_eq_true (by omega)
  have HT := Lib.hid ht
  have HR := Lib.hid h
  have Hn := Lib.hid hn
  have hBw : B ≤ w.heap.size := h.2
  clear ht h hn
  go_enter Tryd.func3, Tryd.ntmps3
  go_wp2_with fail
  refine (much_one HR.out Hn.out (by omega)).mono ?_
  rintro e w1 ⟨rfl, hb1⟩
  have S1 := Lib.hid hb1
  have z1 : w.heap.size ≤ w1.heap.size := S1.out.size
  clear hb1
  go_wp2_with fail
  refine (known_any ((HT.out).next S1.out).1 ((HT.out).next S1.out).2).mono ?_
  rintro e w2 ⟨rfl, hb2⟩
  have S2 := Lib.hid hb2
  have z2 : w1.heap.size ≤ w2.heap.size := S2.out.size
  clear hb2
  go_wp2_with fail
  go_ret
  exact ⟨rfl, S1.out.trans (S2.out.mono z1)⟩
set_option maxRecDepth 100000 in
set_option maxHeartbeats 8000000 in
theorem short_bad3 {w : World} {B n c : Nat} {A : Option Addr} {l : List Int} (ht : TabX B w) (h : Rd w B A l) (hn : n = l.length) (hc : n ≤ c) (hcm : c ≤ 9223372036854775807) (hsm : n ≤ 9000) (hw : Wf l) (hz : chk [l] ≠ 0) :
    Calls Tryd.prog 3 #[.slice A n c] w (fun e w' => e = .returned (.bool true) ∧ Below w.heap.size w w') := by
  have hmu : decide ((9000 : Int) < (min n 10000 : Nat)) = false := decide_eq_false (by omega)
  obtain ⟨z, hze⟩ : ∃ z, chk [l] = z := ⟨_, rfl⟩
  have Hze := Lib.hid hze.symm
  have Hz := Lib.hid hz
  have Hw := Lib.hid hw
  have HC := Lib.hid (fun (W : World) (hr : Rd W B A l) => show Calls Tryd.prog 14 #[.slice A n c] W (fun e w' => e = .returned (.int .i64 z) ∧ W = w') by rw [← hze]; exact rcheck_any hr.1 hn (by omega) hw)
  have HK := Lib.hid (fun (W : World) {B' c' : Nat} {A' : Option Addr} (hr : Rd W B' A' (l ++ [771])) => show Calls Tryd.prog 21 #[.slice A' n c'] W (fun e w' => e = .returned (.int .i64 z) ∧ Below W.heap.size W w') by rw [← hze]; exact wcheck_any hr.cut.1 hr.2 hn hw (by omega))
  have H_short_bad := Lib.hid (fun (W : World) {B' c' : Nat} {A' : Option Addr} (hr : Rd W B' A' (l ++ [771])) => show Calls Tryd.prog 15 #[.slice A' n c'] W (fun e w' => e = .returned (.tuple #[.slice none 0 0, .int .i64 z]) ∧ Below W.heap.size W w') by rw [← hze]; exact short_bad hr.cut.1 hr.2 hn hw (by omega) hz)
  have H_inverse_bad := Lib.hid (fun (W : World) {B' c' : Nat} {A' : Option Addr} (hr : Rd W B' A' (l ++ [771])) => show Calls Tryd.prog 16 #[.slice A' n c'] W (fun e w' => e = .returned (.tuple #[.slice none 0 0, .int .i64 z]) ∧ Below W.heap.size W w') by rw [← hze]; exact inverse_bad hr.cut.1 hr.2 hn hw (by omega) hz)
  have H_core_bad := Lib.hid (fun (W : World) {B' c' : Nat} {A' : Option Addr} (hr : Rd W B' A' (l ++ [771])) => show Calls Tryd.prog 17 #[.slice A' n c'] W (fun e w' => e = .returned (.tuple #[.slice none 0 0, .slice none 0 0, .int .i64 z]) ∧ Below W.heap.size W w') by rw [← hze]; exact core_bad hr.cut.1 hr.2 hn hw (by omega) hz)
  have H_root_bad := Lib.hid (fun (W : World) {B' c' : Nat} {A' : Option Addr} (hr : Rd W B' A' (l ++ [771])) => show Calls Tryd.prog 18 #[.slice A' n c'] W (fun e w' => e = .returned (.tuple #[.slice none 0 0, .int .i64 0, .int .i64 z]) ∧ Below W.heap.size W w') by rw [← hze]; exact root_bad hr.cut.1 hr.2 hn hw (by omega) hz)
  have H_wtext_bad := Lib.hid (fun (W : World) {B' c' : Nat} {A' : Option Addr} (hr : Rd W B' A' (l ++ [771])) => show Calls Tryd.prog 19 #[.slice A' n c'] W (fun e w' => e = .returned (.tuple #[.string ⟨#[]⟩, .int .i64 z]) ∧ Below W.heap.size W w') by rw [← hze]; exact wtext_bad hr.cut.1 hr.2 hn hw (by omega) hz)
  have hzb : (z == 0) = false := by rw [← hze]; simp; exact hz
  have hzb2 : (z != 0) = true := by rw [← hze]; simp; exact hz
  have hzz : (z == z) = true := by simp
  have hzz2 : (z != z) = false := by simp
  clear hze hz hw
  have HT := Lib.hid ht
  have HR := Lib.hid h
  have Hn := Lib.hid hn
  have hBw : B ≤ w.heap.size := h.2
  clear ht h hn
  go_enter Tryd.func3, Tryd.ntmps3
  go_wp2_with fail
  refine (much_one HR.out Hn.out (by omega)).mono ?_
  rintro e w1 ⟨rfl, hb1⟩
  have S1 := Lib.hid hb1
  have z1 : w.heap.size ≤ w1.heap.size := S1.out.size
  clear hb1
  go_wp2_with fail
  refine (lent_rd ((HR.out).next S1.out) Hn.out (by omega)).mono ?_
  rintro e w2 ⟨A2, c2, rfl, hc2, hm2, hr2, hb2⟩
  have S2 := Lib.hid hb2
  have z2 : w1.heap.size ≤ w2.heap.size := S2.out.size
  clear hb2
  have G_m := Lib.hid hr2
  clear hr2
  go_wp2_with fail
  refine (HC.out w2 (((HR.out).next S1.out).next S2.out)).mono ?_
  rintro e w' ⟨rfl, rfl⟩
  go_wp2_with fail
  refine (H_short_bad.out w2 (G_m.out)).mono ?_
  rintro e w4 ⟨rfl, hb4⟩
  have S4 := Lib.hid hb4
  have z4 : w2.heap.size ≤ w4.heap.size := S4.out.size
  clear hb4
  go_wp2_with fail
  refine (H_short_bad.out w4 ((G_m.out).next S4.out)).mono ?_
  rintro e w5 ⟨rfl, hb5⟩
  have S5 := Lib.hid hb5
  have z5 : w4.heap.size ≤ w5.heap.size := S5.out.size
  clear hb5
  go_wp2_with fail
  refine (H_inverse_bad.out w5 (((G_m.out).next S4.out).next S5.out)).mono ?_
  rintro e w6 ⟨rfl, hb6⟩
  have S6 := Lib.hid hb6
  have z6 : w5.heap.size ≤ w6.heap.size := S6.out.size
  clear hb6
  go_wp2_with fail
  refine (H_inverse_bad.out w6 ((((G_m.out).next S4.out).next S5.out).next S6.out)).mono ?_
  rintro e w7 ⟨rfl, hb7⟩
  have S7 := Lib.hid hb7
  have z7 : w6.heap.size ≤ w7.heap.size := S7.out.size
  clear hb7
  go_wp2_with fail
  refine (H_core_bad.out w7 (((((G_m.out).next S4.out).next S5.out).next S6.out).next S7.out)).mono ?_
  rintro e w8 ⟨rfl, hb8⟩
  have S8 := Lib.hid hb8
  have z8 : w7.heap.size ≤ w8.heap.size := S8.out.size
  clear hb8
  go_wp2_with fail
  refine (H_root_bad.out w8 ((((((G_m.out).next S4.out).next S5.out).next S6.out).next S7.out).next S8.out)).mono ?_
  rintro e w9 ⟨rfl, hb9⟩
  have S9 := Lib.hid hb9
  have z9 : w8.heap.size ≤ w9.heap.size := S9.out.size
  clear hb9
  go_wp2_with fail
  refine (H_wtext_bad.out w9 (((((((G_m.out).next S4.out).next S5.out).next S6.out).next S7.out).next S8.out).next S9.out)).mono ?_
  rintro e w10 ⟨rfl, hb10⟩
  have S10 := Lib.hid hb10
  have z10 : w9.heap.size ≤ w10.heap.size := S10.out.size
  clear hb10
  go_wp2_with ((go_at_call 20; refine num_any.mono ?_; rintro e w' ⟨rfl, rfl⟩))
  refine (HK.out w10 ((((((((G_m.out).next S4.out).next S5.out).next S6.out).next S7.out).next S8.out).next S9.out).next S10.out)).mono ?_
  rintro e w11 ⟨rfl, hb11⟩
  have S11 := Lib.hid hb11
  have z11 : w10.heap.size ≤ w11.heap.size := S11.out.size
  clear hb11
  go_wp2_with ((go_at_call 20; refine num_any.mono ?_; rintro e w' ⟨rfl, rfl⟩))
  refine (left_any (c' := c) (((((((((G_m.out).next S4.out).next S5.out).next S6.out).next S7.out).next S8.out).next S9.out).next S10.out).next S11.out).1 (((((((((((HR.out).next S1.out).next S2.out).next S4.out).next S5.out).next S6.out).next S7.out).next S8.out).next S9.out).next S10.out).next S11.out).1 Hn.out Hn.out hc2 (by omega)).mono ?_
  rintro e w12 ⟨rfl, hb12⟩
  have S12 := Lib.hid hb12
  have z12 : w11.heap.size ≤ w12.heap.size := S12.out.size
  clear hb12
  go_wp2_with ((go_at_call 20; refine num_any.mono ?_; rintro e w' ⟨rfl, rfl⟩))
  refine (told_got (lo := w12.heap.size) (hi := w12.heap.size) (Got.none_ (Nat.le_refl _) (Nat.le_refl _)) (awayX_none _ _ _ _) (awayX_none _ _ _ _) rfl rfl rfl rfl (by decide)).mono ?_
  rintro e w13 ⟨rfl, hb13⟩
  have S13 := Lib.hid hb13
  have z13 : w12.heap.size ≤ w13.heap.size := S13.out.size
  clear hb13
  have S13 := Lib.hid (S13.out.below (Nat.le_refl _))
  go_wp2_with ((go_at_call 20; refine num_any.mono ?_; rintro e w' ⟨rfl, rfl⟩))
  refine (told_got (lo := w13.heap.size) (hi := w13.heap.size) (Got.none_ (Nat.le_refl _) (Nat.le_refl _)) (awayX_none _ _ _ _) (awayX_none _ _ _ _) rfl rfl rfl rfl (by decide)).mono ?_
  rintro e w14 ⟨rfl, hb14⟩
  have S14 := Lib.hid hb14
  have z14 : w13.heap.size ≤ w14.heap.size := S14.out.size
  clear hb14
  have S14 := Lib.hid (S14.out.below (Nat.le_refl _))
  go_wp2_with ((go_at_call 20; refine num_any.mono ?_; rintro e w' ⟨rfl, rfl⟩))
  refine (known_any ((((((((((((((HT.out).next S1.out).next S2.out).next S4.out).next S5.out).next S6.out).next S7.out).next S8.out).next S9.out).next S10.out).next S11.out).next S12.out).next S13.out).next S14.out).1 ((((((((((((((HT.out).next S1.out).next S2.out).next S4.out).next S5.out).next S6.out).next S7.out).next S8.out).next S9.out).next S10.out).next S11.out).next S12.out).next S13.out).next S14.out).2).mono ?_
  rintro e w15 ⟨rfl, hb15⟩
  have S15 := Lib.hid hb15
  have z15 : w14.heap.size ≤ w15.heap.size := S15.out.size
  clear hb15
  have BB := Lib.hid (((((((((((((((Below.refl w.heap.size w).trans (S1.out.mono (by omega))).trans (S2.out.mono (by omega))).trans (S4.out.mono (by omega))).trans (S5.out.mono (by omega))).trans (S6.out.mono (by omega))).trans (S7.out.mono (by omega))).trans (S8.out.mono (by omega))).trans (S9.out.mono (by omega))).trans (S10.out.mono (by omega))).trans (S11.out.mono (by omega))).trans (S12.out.mono (by omega))).trans (S13.out.mono (by omega))).trans (S14.out.mono (by omega))).trans (S15.out.mono (by omega)))
  go_wp2_with fail
  go_ret
  exact ⟨rfl, BB.out⟩
set_option maxRecDepth 100000 in
set_option maxHeartbeats 8000000 in
theorem short_empty3 {w : World} {B n c : Nat} {A : Option Addr} {l : List Int} (ht : TabX B w) (h : Rd w B A l) (hn : n = l.length) (hc : n ≤ c) (hcm : c ≤ 9223372036854775807) (hsm : n ≤ 9000) (hz : chk [l] = 0) (hem : short l = []) :
    Calls Tryd.prog 3 #[.slice A n c] w (fun e w' => e = .returned (.bool true) ∧ Below w.heap.size w w') := by
  have hmu : decide ((9000 : Int) < (min n 10000 : Nat)) = false := decide_eq_false (by omega)
  obtain ⟨hw1, hlen⟩ := chk_one.1 hz
  have hl := word_let hw1
  have hw : Wf l := fun k hk => by have := hl k hk; omega
  have HL := Lib.hid hl
  have hsl := short_len_le l
  have HL2 := Lib.hid (And.intro (letl_short hl) (show (short l).length ≤ 4096 by omega))
  have hcl := core_len (short l)
  have hjl := conj_len (short l)
  have hpl := parts_le (short l)
  have hil := inv_len l
  have hn4 : n ≤ 4096 := by omega
  have hrl : (rootw l).length ≤ 20000 := by unfold rootw; rw [List.length_append, List.length_append, inv_len, List.length_take]; omega
  have Hlens := Lib.hid (show (short l).length ≤ 4096 ∧ (inv l).length ≤ 4096 ∧ (core (short l)).length ≤ 4096 ∧ (conj (short l)).length ≤ 4096 ∧ (rootw l).length ≤ 20000 by omega)
  obtain ⟨TS, hTS⟩ : ∃ TS : ByteArray, TS = ⟨(txt l).toArray⟩ := ⟨_, rfl⟩
  have HST := Lib.hid hTS
  have HC := Lib.hid (fun (W : World) (hr : Rd W B A l) => show Calls Tryd.prog 14 #[.slice A n c] W (fun e w' => e = .returned (.int .i64 0) ∧ W = w') by rw [← hz]; exact rcheck_any hr.1 hn (by omega) hw)
  have HK := Lib.hid (fun (W : World) {B' c' : Nat} {A' : Option Addr} (hr : Rd W B' A' (l ++ [771])) => show Calls Tryd.prog 21 #[.slice A' n c'] W (fun e w' => e = .returned (.int .i64 0) ∧ Below W.heap.size W w') by rw [← hz]; exact wcheck_any hr.cut.1 hr.2 hn hw (by omega))
  have HS := Lib.hid (fun (W : World) {B' c' : Nat} {A' : Option Addr} (hr : Rd W B' A' (l ++ [771])) => short_ok (c := c') hr.cut.1 hr.2 hn hz)
  have HI := Lib.hid (fun (W : World) {B' c' : Nat} {A' : Option Addr} (hr : Rd W B' A' (l ++ [771])) => inverse_ok (c := c') hr.cut.1 hr.2 hn hz)
  have HCo := Lib.hid (fun (W : World) {B' c' : Nat} {A' : Option Addr} (hr : Rd W B' A' (l ++ [771])) => core_ok (c := c') hr.cut.1 hr.2 hn hz)
  have HTx := Lib.hid (fun (W : World) {B' B2 c' : Nat} {A' : Option Addr} (hT : TabX B2 W) (hr : Rd W B' A' (l ++ [771])) => show Calls Tryd.prog 19 #[.slice A' n c'] W (fun e w' => e = .returned (.tuple #[.string TS, .int .i64 0]) ∧ Below W.heap.size W w') by rw [hTS]; exact wtext_ok (B := W.heap.size) (hT.1.more hT.2) (hr.cut.1.more hr.2) (Nat.le_refl _) hn hz)
  have hco : core (short l) = [] := by rw [hem]; rfl
  have hse : (short l).length = 0 := by rw [hem]; rfl
  have HRo := Lib.hid (fun (W : World) {B' c' : Nat} {A' : Option Addr} (hr : Rd W B' A' (l ++ [771])) => root_none (c := c') hr.cut.1 hr.2 hn hz hco)
  have Hse := Lib.hid hse
  clear hz hw hl hw1 hlen hsl hcl hjl hpl hil hrl hTS hco hem hse
  have HT := Lib.hid ht
  have HR := Lib.hid h
  have Hn := Lib.hid hn
  have hBw : B ≤ w.heap.size := h.2
  clear ht h hn
  go_enter Tryd.func3, Tryd.ntmps3
  go_wp2_with fail
  refine (much_one HR.out Hn.out (by omega)).mono ?_
  rintro e w1 ⟨rfl, hb1⟩
  have S1 := Lib.hid hb1
  have z1 : w.heap.size ≤ w1.heap.size := S1.out.size
  clear hb1
  go_wp2_with fail
  refine (lent_rd ((HR.out).next S1.out) Hn.out (by omega)).mono ?_
  rintro e w2 ⟨A2, c2, rfl, hc2, hm2, hr2, hb2⟩
  have S2 := Lib.hid hb2
  have z2 : w1.heap.size ≤ w2.heap.size := S2.out.size
  clear hb2
  have G_m := Lib.hid hr2
  clear hr2
  go_wp2_with fail
  refine (HC.out w2 (((HR.out).next S1.out).next S2.out)).mono ?_
  rintro e w' ⟨rfl, rfl⟩
  go_wp2_with fail
  refine (HS.out w2 (G_m.out)).mono ?_
  rintro e w4 ⟨A4, n4, rfl, hr4, hb4⟩
  have S4 := Lib.hid hb4
  have z4 : w2.heap.size ≤ w4.heap.size := S4.out.size
  clear hb4
  have G_a := Lib.hid (Got.of_res hr4 z4)
  clear hr4
  go_wp2_with fail
  refine (HS.out w4 ((G_m.out).next S4.out)).mono ?_
  rintro e w5 ⟨A5, n5, rfl, hr5, hb5⟩
  have S5 := Lib.hid hb5
  have z5 : w4.heap.size ≤ w5.heap.size := S5.out.size
  clear hb5
  have G_b := Lib.hid (Got.of_res hr5 z5)
  clear hr5
  go_wp2_with fail
  refine (HI.out w5 (((G_m.out).next S4.out).next S5.out)).mono ?_
  rintro e w6 ⟨A6, n6, rfl, hr6, hb6⟩
  have S6 := Lib.hid hb6
  have z6 : w5.heap.size ≤ w6.heap.size := S6.out.size
  clear hb6
  have G_c := Lib.hid (Got.of_res hr6 z6)
  clear hr6
  go_wp2_with fail
  refine (HI.out w6 ((((G_m.out).next S4.out).next S5.out).next S6.out)).mono ?_
  rintro e w7 ⟨A7, n7, rfl, hr7, hb7⟩
  have S7 := Lib.hid hb7
  have z7 : w6.heap.size ≤ w7.heap.size := S7.out.size
  clear hb7
  have G_d := Lib.hid (Got.of_res hr7 z7)
  clear hr7
  go_wp2_with fail
  refine (HCo.out w7 (((((G_m.out).next S4.out).next S5.out).next S6.out).next S7.out)).mono ?_
  rintro e w8 ⟨A8, c8, D8, d8, rfl, ho8, hp8, hb8⟩
  have S8 := Lib.hid hb8
  have z8 : w7.heap.size ≤ w8.heap.size := S8.out.size
  clear hb8
  have G_core := Lib.hid (Got.of_own ho8 z8)
  clear ho8
  have G_by := Lib.hid (Got.of_own hp8 z8)
  clear hp8
  go_wp2_with fail
  refine (HRo.out w8 ((((((G_m.out).next S4.out).next S5.out).next S6.out).next S7.out).next S8.out)).mono ?_
  rintro e w9 ⟨rfl, hb9⟩
  have S9 := Lib.hid hb9
  have z9 : w8.heap.size ≤ w9.heap.size := S9.out.size
  clear hb9
  go_wp2_with fail
  refine (HTx.out w9 (((((((((HT.out).next S1.out).next S2.out).next S4.out).next S5.out).next S6.out).next S7.out).next S8.out).next S9.out) (((((((G_m.out).next S4.out).next S5.out).next S6.out).next S7.out).next S8.out).next S9.out)).mono ?_
  rintro e w10 ⟨rfl, hb10⟩
  have S10 := Lib.hid hb10
  have z10 : w9.heap.size ≤ w10.heap.size := S10.out.size
  clear hb10
  go_wp2_with ((go_at_call 20; refine num_any.mono ?_; rintro e w' ⟨rfl, rfl⟩))
  refine (HK.out w10 ((((((((G_m.out).next S4.out).next S5.out).next S6.out).next S7.out).next S8.out).next S9.out).next S10.out)).mono ?_
  rintro e w11 ⟨rfl, hb11⟩
  have S11 := Lib.hid hb11
  have z11 : w10.heap.size ≤ w11.heap.size := S11.out.size
  clear hb11
  go_wp2_with ((go_at_call 20; refine num_any.mono ?_; rintro e w' ⟨rfl, rfl⟩))
  refine (left_any (c' := c) (((((((((G_m.out).next S4.out).next S5.out).next S6.out).next S7.out).next S8.out).next S9.out).next S10.out).next S11.out).1 (((((((((((HR.out).next S1.out).next S2.out).next S4.out).next S5.out).next S6.out).next S7.out).next S8.out).next S9.out).next S10.out).next S11.out).1 Hn.out Hn.out hc2 (by omega)).mono ?_
  rintro e w12 ⟨rfl, hb12⟩
  have S12 := Lib.hid hb12
  have z12 : w11.heap.size ≤ w12.heap.size := S12.out.size
  clear hb12
  go_wp2_with ((go_at_call 20; refine num_any.mono ?_; rintro e w' ⟨rfl, rfl⟩))
  refine (rshort_any (c := c) ((((((((((((HR.out).next S1.out).next S2.out).next S4.out).next S5.out).next S6.out).next S7.out).next S8.out).next S9.out).next S10.out).next S11.out).next S12.out).1 ((((((((((((HR.out).next S1.out).next S2.out).next S4.out).next S5.out).next S6.out).next S7.out).next S8.out).next S9.out).next S10.out).next S11.out).next S12.out).2 Hn.out HL.out (by omega)).mono ?_
  rintro e w13 ⟨A13, n13, c13, rfl, ho13, hb13⟩
  have S13 := Lib.hid hb13
  have z13 : w12.heap.size ≤ w13.heap.size := S13.out.size
  clear hb13
  have G_s := Lib.hid (Got.of_own ho13 z13)
  clear ho13
  have hs13 := G_s.out.len
  have Hs := Lib.hid hs13
  clear hs13
  go_wp2_with ((go_at_call 20; refine num_any.mono ?_; rintro e w' ⟨rfl, rfl⟩))
  refine (rcore_more (c := c13) (G_s.out).reads (G_s.out).1.2 Hs.out.1 Hs.out.2.1 HL2.out.1 (by have := Hs.out.1; have := HL2.out.2; omega) Hs.out.2.2).mono ?_
  rintro e w14 ⟨A14, c14, D14, n14, d14, rfl, hr14, _, ho14, hb14, hp14⟩
  have S14 := Lib.hid hb14
  have z14 : w13.heap.size ≤ w14.heap.size := S14.out.size
  clear hb14
  have G_x := Lib.hid ((G_s.out).part hr14 S14.out (by rw [core_len]; omega) hp14)
  clear hr14 hp14
  have G_y := Lib.hid (Got.of_own ho14 z14)
  clear ho14
  go_wp2_with ((go_at_call 20; refine num_any.mono ?_; rintro e w' ⟨rfl, rfl⟩))
  refine (told_got (((((((((((G_a.out).next S5.out).next S6.out).next S7.out).next S8.out).next S9.out).next S10.out).next S11.out).next S12.out).next S13.out).next S14.out) (((((((((((G_b.out).next S6.out).next S7.out).next S8.out).next S9.out).next S10.out).next S11.out).next S12.out).next S13.out).next S14.out).away (by omega)) (((G_s.out).next S14.out).away (by omega)) rfl rfl (((((((((((G_b.out).next S6.out).next S7.out).next S8.out).next S9.out).next S10.out).next S11.out).next S12.out).next S13.out).next S14.out).len.1) Hs.out.1 (by have := ((((((((((((G_a.out).next S5.out).next S6.out).next S7.out).next S8.out).next S9.out).next S10.out).next S11.out).next S12.out).next S13.out).next S14.out)).len.1; have := Hlens.out; omega)).mono ?_
  rintro e w15 ⟨rfl, hb15⟩
  have S15 := Lib.hid hb15
  have z15 : w14.heap.size ≤ w15.heap.size := S15.out.size
  clear hb15
  go_wp2_with ((go_at_call 20; refine num_any.mono ?_; rintro e w' ⟨rfl, rfl⟩))
  refine (rinv_any (c := c) (((((((((((((((HR.out).next S1.out).next S2.out).next S4.out).next S5.out).next S6.out).next S7.out).next S8.out).next S9.out).next S10.out).next S11.out).next S12.out).next S13.out).next S14.out).far (S15.out.below (by omega)) (by omega)).1 (((((((((((((((HR.out).next S1.out).next S2.out).next S4.out).next S5.out).next S6.out).next S7.out).next S8.out).next S9.out).next S10.out).next S11.out).next S12.out).next S13.out).next S14.out).far (S15.out.below (by omega)) (by omega)).2 Hn.out (letl_small HL.out) (by omega)).mono ?_
  rintro e w16 ⟨A16, n16, c16, rfl, ho16, hb16⟩
  have S16 := Lib.hid hb16
  have z16 : w15.heap.size ≤ w16.heap.size := S16.out.size
  clear hb16
  have G_i := Lib.hid (Got.of_own ho16 z16)
  clear ho16
  go_wp2_with ((go_at_call 20; refine num_any.mono ?_; rintro e w' ⟨rfl, rfl⟩))
  refine (told_got (((((((((((G_c.out).next S7.out).next S8.out).next S9.out).next S10.out).next S11.out).next S12.out).next S13.out).next S14.out).outside S15.out (by omega)).next S16.out) (((((((((((G_d.out).next S8.out).next S9.out).next S10.out).next S11.out).next S12.out).next S13.out).next S14.out).outside S15.out (by omega)).next S16.out).away (by omega)) ((G_i.out).away (by omega)) rfl rfl (((((((((((G_d.out).next S8.out).next S9.out).next S10.out).next S11.out).next S12.out).next S13.out).next S14.out).outside S15.out (by omega)).next S16.out).len.1) ((G_i.out).len.1) (by have := ((((((((((((G_c.out).next S7.out).next S8.out).next S9.out).next S10.out).next S11.out).next S12.out).next S13.out).next S14.out).outside S15.out (by omega)).next S16.out)).len.1; have := Hlens.out; omega)).mono ?_
  rintro e w17 ⟨rfl, hb17⟩
  have S17 := Lib.hid hb17
  have z17 : w16.heap.size ≤ w17.heap.size := S17.out.size
  clear hb17
  go_wp2_with ((go_at_call 20; refine num_any.mono ?_; rintro e w' ⟨rfl, rfl⟩))
  refine (same_below ((((((((((G_core.out).next S9.out).next S10.out).next S11.out).next S12.out).next S13.out).next S14.out).outside S15.out (by omega)).next S16.out).outside S17.out (by omega)).reads ((((G_x.out).outside S15.out (by omega)).next S16.out).outside S17.out (by omega)).reads (((((((((((G_core.out).next S9.out).next S10.out).next S11.out).next S12.out).next S13.out).next S14.out).outside S15.out (by omega)).next S16.out).outside S17.out (by omega)).len.1) rfl (by have := (((((((((((G_core.out).next S9.out).next S10.out).next S11.out).next S12.out).next S13.out).next S14.out).outside S15.out (by omega)).next S16.out).outside S17.out (by omega))).len.1; have := Hlens.out; omega)).mono ?_
  rintro e w18 ⟨rfl, hb18⟩
  have S18 := Lib.hid hb18
  have z18 : w17.heap.size ≤ w18.heap.size := S18.out.size
  clear hb18
  go_wp2_with ((go_at_call 20; refine num_any.mono ?_; rintro e w' ⟨rfl, rfl⟩))
  refine (same_below (((((((((((G_by.out).next S9.out).next S10.out).next S11.out).next S12.out).next S13.out).next S14.out).outside S15.out (by omega)).next S16.out).outside S17.out (by omega)).next S18.out).reads (((((G_y.out).outside S15.out (by omega)).next S16.out).outside S17.out (by omega)).next S18.out).reads ((((((((((((G_by.out).next S9.out).next S10.out).next S11.out).next S12.out).next S13.out).next S14.out).outside S15.out (by omega)).next S16.out).outside S17.out (by omega)).next S18.out).len.1) ((((((G_y.out).outside S15.out (by omega)).next S16.out).outside S17.out (by omega)).next S18.out).len.1) (by have := ((((((((((((G_by.out).next S9.out).next S10.out).next S11.out).next S12.out).next S13.out).next S14.out).outside S15.out (by omega)).next S16.out).outside S17.out (by omega)).next S18.out)).len.1; have := Hlens.out; omega)).mono ?_
  rintro e w19 ⟨rfl, hb19⟩
  have S19 := Lib.hid hb19
  have z19 : w18.heap.size ≤ w19.heap.size := S19.out.size
  clear hb19
  go_wp2_with ((go_at_call 20; refine num_any.mono ?_; rintro e w' ⟨rfl, rfl⟩))
  refine (rtext_s HST.out (rtext_any (c := c) (((((((((((((((((((HR.out).next S1.out).next S2.out).next S4.out).next S5.out).next S6.out).next S7.out).next S8.out).next S9.out).next S10.out).next S11.out).next S12.out).next S13.out).next S14.out).far (S15.out.below (by omega)) (by omega)).next S16.out).far (S17.out.below (by omega)) (by omega)).next S18.out).next S19.out).1 (((((((((((((((((((HR.out).next S1.out).next S2.out).next S4.out).next S5.out).next S6.out).next S7.out).next S8.out).next S9.out).next S10.out).next S11.out).next S12.out).next S13.out).next S14.out).far (S15.out.below (by omega)) (by omega)).next S16.out).far (S17.out.below (by omega)) (by omega)).next S18.out).next S19.out).2 Hn.out HL.out (by omega))).mono ?_
  rintro e w20 ⟨rfl, hb20⟩
  have S20 := Lib.hid hb20
  have z20 : w19.heap.size ≤ w20.heap.size := S20.out.size
  clear hb20
  have hzs : ((n13 : Int) == 0) = true := by have h1 := Hs.out.1; have h2 := Hse.out; simp; omega
  go_wp2_with ((go_at_call 20; refine num_any.mono ?_; rintro e w' ⟨rfl, rfl⟩))
  refine (left_any (c' := c) ((((((((((((((((((G_m.out).next S4.out).next S5.out).next S6.out).next S7.out).next S8.out).next S9.out).next S10.out).next S11.out).next S12.out).next S13.out).next S14.out).far (S15.out.below (by omega)) (by omega)).next S16.out).far (S17.out.below (by omega)) (by omega)).next S18.out).next S19.out).next S20.out).1 ((((((((((((((((((((HR.out).next S1.out).next S2.out).next S4.out).next S5.out).next S6.out).next S7.out).next S8.out).next S9.out).next S10.out).next S11.out).next S12.out).next S13.out).next S14.out).far (S15.out.below (by omega)) (by omega)).next S16.out).far (S17.out.below (by omega)) (by omega)).next S18.out).next S19.out).next S20.out).1 Hn.out Hn.out hc2 (by omega)).mono ?_
  rintro e w21 ⟨rfl, hb21⟩
  have S21 := Lib.hid hb21
  have z21 : w20.heap.size ≤ w21.heap.size := S21.out.size
  clear hb21
  go_wp2_with ((go_at_call 20; refine num_any.mono ?_; rintro e w' ⟨rfl, rfl⟩))
  refine (known_any (((((((((((((((((((((HT.out).next S1.out).next S2.out).next S4.out).next S5.out).next S6.out).next S7.out).next S8.out).next S9.out).next S10.out).next S11.out).next S12.out).next S13.out).next S14.out).far (S15.out.below (by omega)) (by omega)).next S16.out).far (S17.out.below (by omega)) (by omega)).next S18.out).next S19.out).next S20.out).next S21.out).1 (((((((((((((((((((((HT.out).next S1.out).next S2.out).next S4.out).next S5.out).next S6.out).next S7.out).next S8.out).next S9.out).next S10.out).next S11.out).next S12.out).next S13.out).next S14.out).far (S15.out.below (by omega)) (by omega)).next S16.out).far (S17.out.below (by omega)) (by omega)).next S18.out).next S19.out).next S20.out).next S21.out).2).mono ?_
  rintro e w22 ⟨rfl, hb22⟩
  have S22 := Lib.hid hb22
  have z22 : w21.heap.size ≤ w22.heap.size := S22.out.size
  clear hb22
  have BB := Lib.hid ((((((((((((((((((((((Below.refl w.heap.size w).trans (S1.out.mono (by omega))).trans (S2.out.mono (by omega))).trans (S4.out.mono (by omega))).trans (S5.out.mono (by omega))).trans (S6.out.mono (by omega))).trans (S7.out.mono (by omega))).trans (S8.out.mono (by omega))).trans (S9.out.mono (by omega))).trans (S10.out.mono (by omega))).trans (S11.out.mono (by omega))).trans (S12.out.mono (by omega))).trans (S13.out.mono (by omega))).trans (S14.out.mono (by omega))).trans ((S15.out.below (by omega)).mono (by omega))).trans (S16.out.mono (by omega))).trans ((S17.out.below (by omega)).mono (by omega))).trans (S18.out.mono (by omega))).trans (S19.out.mono (by omega))).trans (S20.out.mono (by omega))).trans (S21.out.mono (by omega))).trans (S22.out.mono (by omega)))
  go_wp2_with fail
  go_ret
  exact ⟨rfl, BB.out⟩
set_option maxRecDepth 100000 in
set_option maxHeartbeats 8000000 in
theorem short_full3 {w : World} {B n c : Nat} {A : Option Addr} {l : List Int} (ht : TabX B w) (h : Rd w B A l) (hn : n = l.length) (hc : n ≤ c) (hcm : c ≤ 9223372036854775807) (hsm : n ≤ 9000) (hz : chk [l] = 0) (hne : short l ≠ []) :
    Calls Tryd.prog 3 #[.slice A n c] w (fun e w' => e = .returned (.bool true) ∧ Below w.heap.size w w') := by
  have hmu : decide ((9000 : Int) < (min n 10000 : Nat)) = false := decide_eq_false (by omega)
  obtain ⟨hw1, hlen⟩ := chk_one.1 hz
  have hl := word_let hw1
  have hw : Wf l := fun k hk => by have := hl k hk; omega
  have HL := Lib.hid hl
  have hsl := short_len_le l
  have HL2 := Lib.hid (And.intro (letl_short hl) (show (short l).length ≤ 4096 by omega))
  have hcl := core_len (short l)
  have hjl := conj_len (short l)
  have hpl := parts_le (short l)
  have hil := inv_len l
  have hn4 : n ≤ 4096 := by omega
  have hrl : (rootw l).length ≤ 20000 := by unfold rootw; rw [List.length_append, List.length_append, inv_len, List.length_take]; omega
  have Hlens := Lib.hid (show (short l).length ≤ 4096 ∧ (inv l).length ≤ 4096 ∧ (core (short l)).length ≤ 4096 ∧ (conj (short l)).length ≤ 4096 ∧ (rootw l).length ≤ 20000 by omega)
  obtain ⟨TS, hTS⟩ : ∃ TS : ByteArray, TS = ⟨(txt l).toArray⟩ := ⟨_, rfl⟩
  have HST := Lib.hid hTS
  have HC := Lib.hid (fun (W : World) (hr : Rd W B A l) => show Calls Tryd.prog 14 #[.slice A n c] W (fun e w' => e = .returned (.int .i64 0) ∧ W = w') by rw [← hz]; exact rcheck_any hr.1 hn (by omega) hw)
  have HK := Lib.hid (fun (W : World) {B' c' : Nat} {A' : Option Addr} (hr : Rd W B' A' (l ++ [771])) => show Calls Tryd.prog 21 #[.slice A' n c'] W (fun e w' => e = .returned (.int .i64 0) ∧ Below W.heap.size W w') by rw [← hz]; exact wcheck_any hr.cut.1 hr.2 hn hw (by omega))
  have HS := Lib.hid (fun (W : World) {B' c' : Nat} {A' : Option Addr} (hr : Rd W B' A' (l ++ [771])) => short_ok (c := c') hr.cut.1 hr.2 hn hz)
  have HI := Lib.hid (fun (W : World) {B' c' : Nat} {A' : Option Addr} (hr : Rd W B' A' (l ++ [771])) => inverse_ok (c := c') hr.cut.1 hr.2 hn hz)
  have HCo := Lib.hid (fun (W : World) {B' c' : Nat} {A' : Option Addr} (hr : Rd W B' A' (l ++ [771])) => core_ok (c := c') hr.cut.1 hr.2 hn hz)
  have HTx := Lib.hid (fun (W : World) {B' B2 c' : Nat} {A' : Option Addr} (hT : TabX B2 W) (hr : Rd W B' A' (l ++ [771])) => show Calls Tryd.prog 19 #[.slice A' n c'] W (fun e w' => e = .returned (.tuple #[.string TS, .int .i64 0]) ∧ Below W.heap.size W w') by rw [hTS]; exact wtext_ok (B := W.heap.size) (hT.1.more hT.2) (hr.cut.1.more hr.2) (Nat.le_refl _) hn hz)
  have hred := red_short' (letl_nz hl)
  have hs1 : 1 ≤ (short l).length := by rcases Nat.eq_zero_or_pos (short l).length with h | h; exact absurd (List.eq_nil_of_length_eq_zero h) hne; exact h
  have hco : core (short l) ≠ [] := fun h => by have := core_pos hred hs1; rw [h] at this; simp at this
  obtain ⟨q0, hq0⟩ : ∃ q, q = (core (short l)).length / per (core (short l)) := ⟨_, rfl⟩
  have HRo := Lib.hid (fun (W : World) {B' c' : Nat} {A' : Option Addr} (hr : Rd W B' A' (l ++ [771])) => show Calls Tryd.prog 18 #[.slice A' n c'] W (fun e w' => ∃ A' n' c', e = .returned (.tuple #[.slice A' n' c', .int .i64 (q0 : Int), .int .i64 0]) ∧ OwnI w' W.heap.size (.slice A' n' c') (rootw l) ∧ Below W.heap.size W w') from (root_ok (c := c') hr.cut.1 hr.2 hn hz hco).mono fun e w' ⟨A', n', c', q, he, hq, ho, hb⟩ => ⟨A', n', c', by rw [he, hq, hq0], ho, hb⟩)
  have HRR := Lib.hid (fun (W : World) {lo hi n' c' : Nat} {A' : Option Addr} (hg : Got W lo hi A' n' c' (short l)) (hl' : n' = (short l).length ∧ n' ≤ c' ∧ c' ≤ 9223372036854775807) => show Calls Tryd.prog 29 #[.slice A' n' c'] W (fun e w' => ∃ A' n' c', e = .returned (.tuple #[.slice A' n' c', .int .i64 (q0 : Int)]) ∧ Rd w' w'.heap.size A' (rootw l) ∧ n' = (rootw l).length ∧ Below W.heap.size W w') from (rroot_any (c := c') hg.reads hg.1.2 hl'.1 hl'.2.1 (letl_short hl) (by omega) hl'.2.2).mono fun e w' ⟨A', n', c', he, hr, hn', hb⟩ => by
    rw [rroot_eq hred hs1 (by omega)] at he hr hn'
    exact ⟨A', n', c', by rw [he, hq0], ⟨hr, Nat.le_refl _⟩, hn', hb⟩)
  have hs1i : ¬ (short l).length = 0 := by omega
  have Hs1 := Lib.hid hs1i
  clear hz hw hl hw1 hlen hsl hcl hjl hpl hil hrl hTS hco hne hred hs1 hq0 hs1i
  have HT := Lib.hid ht
  have HR := Lib.hid h
  have Hn := Lib.hid hn
  have hBw : B ≤ w.heap.size := h.2
  clear ht h hn
  go_enter Tryd.func3, Tryd.ntmps3
  go_wp2_with fail
  refine (much_one HR.out Hn.out (by omega)).mono ?_
  rintro e w1 ⟨rfl, hb1⟩
  have S1 := Lib.hid hb1
  have z1 : w.heap.size ≤ w1.heap.size := S1.out.size
  clear hb1
  go_wp2_with fail
  refine (lent_rd ((HR.out).next S1.out) Hn.out (by omega)).mono ?_
  rintro e w2 ⟨A2, c2, rfl, hc2, hm2, hr2, hb2⟩
  have S2 := Lib.hid hb2
  have z2 : w1.heap.size ≤ w2.heap.size := S2.out.size
  clear hb2
  have G_m := Lib.hid hr2
  clear hr2
  go_wp2_with fail
  refine (HC.out w2 (((HR.out).next S1.out).next S2.out)).mono ?_
  rintro e w' ⟨rfl, rfl⟩
  go_wp2_with fail
  refine (HS.out w2 (G_m.out)).mono ?_
  rintro e w4 ⟨A4, n4, rfl, hr4, hb4⟩
  have S4 := Lib.hid hb4
  have z4 : w2.heap.size ≤ w4.heap.size := S4.out.size
  clear hb4
  have G_a := Lib.hid (Got.of_res hr4 z4)
  clear hr4
  go_wp2_with fail
  refine (HS.out w4 ((G_m.out).next S4.out)).mono ?_
  rintro e w5 ⟨A5, n5, rfl, hr5, hb5⟩
  have S5 := Lib.hid hb5
  have z5 : w4.heap.size ≤ w5.heap.size := S5.out.size
  clear hb5
  have G_b := Lib.hid (Got.of_res hr5 z5)
  clear hr5
  go_wp2_with fail
  refine (HI.out w5 (((G_m.out).next S4.out).next S5.out)).mono ?_
  rintro e w6 ⟨A6, n6, rfl, hr6, hb6⟩
  have S6 := Lib.hid hb6
  have z6 : w5.heap.size ≤ w6.heap.size := S6.out.size
  clear hb6
  have G_c := Lib.hid (Got.of_res hr6 z6)
  clear hr6
  go_wp2_with fail
  refine (HI.out w6 ((((G_m.out).next S4.out).next S5.out).next S6.out)).mono ?_
  rintro e w7 ⟨A7, n7, rfl, hr7, hb7⟩
  have S7 := Lib.hid hb7
  have z7 : w6.heap.size ≤ w7.heap.size := S7.out.size
  clear hb7
  have G_d := Lib.hid (Got.of_res hr7 z7)
  clear hr7
  go_wp2_with fail
  refine (HCo.out w7 (((((G_m.out).next S4.out).next S5.out).next S6.out).next S7.out)).mono ?_
  rintro e w8 ⟨A8, c8, D8, d8, rfl, ho8, hp8, hb8⟩
  have S8 := Lib.hid hb8
  have z8 : w7.heap.size ≤ w8.heap.size := S8.out.size
  clear hb8
  have G_core := Lib.hid (Got.of_own ho8 z8)
  clear ho8
  have G_by := Lib.hid (Got.of_own hp8 z8)
  clear hp8
  go_wp2_with fail
  refine (HRo.out w8 ((((((G_m.out).next S4.out).next S5.out).next S6.out).next S7.out).next S8.out)).mono ?_
  rintro e w9 ⟨A9, n9, c9, rfl, ho9, hb9⟩
  have S9 := Lib.hid hb9
  have z9 : w8.heap.size ≤ w9.heap.size := S9.out.size
  clear hb9
  have G_root := Lib.hid (Got.of_own ho9 z9)
  clear ho9
  go_wp2_with fail
  refine (HTx.out w9 (((((((((HT.out).next S1.out).next S2.out).next S4.out).next S5.out).next S6.out).next S7.out).next S8.out).next S9.out) (((((((G_m.out).next S4.out).next S5.out).next S6.out).next S7.out).next S8.out).next S9.out)).mono ?_
  rintro e w10 ⟨rfl, hb10⟩
  have S10 := Lib.hid hb10
  have z10 : w9.heap.size ≤ w10.heap.size := S10.out.size
  clear hb10
  go_wp2_with ((go_at_call 20; refine num_any.mono ?_; rintro e w' ⟨rfl, rfl⟩))
  refine (HK.out w10 ((((((((G_m.out).next S4.out).next S5.out).next S6.out).next S7.out).next S8.out).next S9.out).next S10.out)).mono ?_
  rintro e w11 ⟨rfl, hb11⟩
  have S11 := Lib.hid hb11
  have z11 : w10.heap.size ≤ w11.heap.size := S11.out.size
  clear hb11
  go_wp2_with ((go_at_call 20; refine num_any.mono ?_; rintro e w' ⟨rfl, rfl⟩))
  refine (left_any (c' := c) (((((((((G_m.out).next S4.out).next S5.out).next S6.out).next S7.out).next S8.out).next S9.out).next S10.out).next S11.out).1 (((((((((((HR.out).next S1.out).next S2.out).next S4.out).next S5.out).next S6.out).next S7.out).next S8.out).next S9.out).next S10.out).next S11.out).1 Hn.out Hn.out hc2 (by omega)).mono ?_
  rintro e w12 ⟨rfl, hb12⟩
  have S12 := Lib.hid hb12
  have z12 : w11.heap.size ≤ w12.heap.size := S12.out.size
  clear hb12
  go_wp2_with ((go_at_call 20; refine num_any.mono ?_; rintro e w' ⟨rfl, rfl⟩))
  refine (rshort_any (c := c) ((((((((((((HR.out).next S1.out).next S2.out).next S4.out).next S5.out).next S6.out).next S7.out).next S8.out).next S9.out).next S10.out).next S11.out).next S12.out).1 ((((((((((((HR.out).next S1.out).next S2.out).next S4.out).next S5.out).next S6.out).next S7.out).next S8.out).next S9.out).next S10.out).next S11.out).next S12.out).2 Hn.out HL.out (by omega)).mono ?_
  rintro e w13 ⟨A13, n13, c13, rfl, ho13, hb13⟩
  have S13 := Lib.hid hb13
  have z13 : w12.heap.size ≤ w13.heap.size := S13.out.size
  clear hb13
  have G_s := Lib.hid (Got.of_own ho13 z13)
  clear ho13
  have hs13 := G_s.out.len
  have Hs := Lib.hid hs13
  clear hs13
  go_wp2_with ((go_at_call 20; refine num_any.mono ?_; rintro e w' ⟨rfl, rfl⟩))
  refine (rcore_more (c := c13) (G_s.out).reads (G_s.out).1.2 Hs.out.1 Hs.out.2.1 HL2.out.1 (by have := Hs.out.1; have := HL2.out.2; omega) Hs.out.2.2).mono ?_
  rintro e w14 ⟨A14, c14, D14, n14, d14, rfl, hr14, _, ho14, hb14, hp14⟩
  have S14 := Lib.hid hb14
  have z14 : w13.heap.size ≤ w14.heap.size := S14.out.size
  clear hb14
  have G_x := Lib.hid ((G_s.out).part hr14 S14.out (by rw [core_len]; omega) hp14)
  clear hr14 hp14
  have G_y := Lib.hid (Got.of_own ho14 z14)
  clear ho14
  go_wp2_with ((go_at_call 20; refine num_any.mono ?_; rintro e w' ⟨rfl, rfl⟩))
  refine (told_got (((((((((((G_a.out).next S5.out).next S6.out).next S7.out).next S8.out).next S9.out).next S10.out).next S11.out).next S12.out).next S13.out).next S14.out) (((((((((((G_b.out).next S6.out).next S7.out).next S8.out).next S9.out).next S10.out).next S11.out).next S12.out).next S13.out).next S14.out).away (by omega)) (((G_s.out).next S14.out).away (by omega)) rfl rfl (((((((((((G_b.out).next S6.out).next S7.out).next S8.out).next S9.out).next S10.out).next S11.out).next S12.out).next S13.out).next S14.out).len.1) Hs.out.1 (by have := ((((((((((((G_a.out).next S5.out).next S6.out).next S7.out).next S8.out).next S9.out).next S10.out).next S11.out).next S12.out).next S13.out).next S14.out)).len.1; have := Hlens.out; omega)).mono ?_
  rintro e w15 ⟨rfl, hb15⟩
  have S15 := Lib.hid hb15
  have z15 : w14.heap.size ≤ w15.heap.size := S15.out.size
  clear hb15
  go_wp2_with ((go_at_call 20; refine num_any.mono ?_; rintro e w' ⟨rfl, rfl⟩))
  refine (rinv_any (c := c) (((((((((((((((HR.out).next S1.out).next S2.out).next S4.out).next S5.out).next S6.out).next S7.out).next S8.out).next S9.out).next S10.out).next S11.out).next S12.out).next S13.out).next S14.out).far (S15.out.below (by omega)) (by omega)).1 (((((((((((((((HR.out).next S1.out).next S2.out).next S4.out).next S5.out).next S6.out).next S7.out).next S8.out).next S9.out).next S10.out).next S11.out).next S12.out).next S13.out).next S14.out).far (S15.out.below (by omega)) (by omega)).2 Hn.out (letl_small HL.out) (by omega)).mono ?_
  rintro e w16 ⟨A16, n16, c16, rfl, ho16, hb16⟩
  have S16 := Lib.hid hb16
  have z16 : w15.heap.size ≤ w16.heap.size := S16.out.size
  clear hb16
  have G_i := Lib.hid (Got.of_own ho16 z16)
  clear ho16
  go_wp2_with ((go_at_call 20; refine num_any.mono ?_; rintro e w' ⟨rfl, rfl⟩))
  refine (told_got (((((((((((G_c.out).next S7.out).next S8.out).next S9.out).next S10.out).next S11.out).next S12.out).next S13.out).next S14.out).outside S15.out (by omega)).next S16.out) (((((((((((G_d.out).next S8.out).next S9.out).next S10.out).next S11.out).next S12.out).next S13.out).next S14.out).outside S15.out (by omega)).next S16.out).away (by omega)) ((G_i.out).away (by omega)) rfl rfl (((((((((((G_d.out).next S8.out).next S9.out).next S10.out).next S11.out).next S12.out).next S13.out).next S14.out).outside S15.out (by omega)).next S16.out).len.1) ((G_i.out).len.1) (by have := ((((((((((((G_c.out).next S7.out).next S8.out).next S9.out).next S10.out).next S11.out).next S12.out).next S13.out).next S14.out).outside S15.out (by omega)).next S16.out)).len.1; have := Hlens.out; omega)).mono ?_
  rintro e w17 ⟨rfl, hb17⟩
  have S17 := Lib.hid hb17
  have z17 : w16.heap.size ≤ w17.heap.size := S17.out.size
  clear hb17
  go_wp2_with ((go_at_call 20; refine num_any.mono ?_; rintro e w' ⟨rfl, rfl⟩))
  refine (same_below ((((((((((G_core.out).next S9.out).next S10.out).next S11.out).next S12.out).next S13.out).next S14.out).outside S15.out (by omega)).next S16.out).outside S17.out (by omega)).reads ((((G_x.out).outside S15.out (by omega)).next S16.out).outside S17.out (by omega)).reads (((((((((((G_core.out).next S9.out).next S10.out).next S11.out).next S12.out).next S13.out).next S14.out).outside S15.out (by omega)).next S16.out).outside S17.out (by omega)).len.1) rfl (by have := (((((((((((G_core.out).next S9.out).next S10.out).next S11.out).next S12.out).next S13.out).next S14.out).outside S15.out (by omega)).next S16.out).outside S17.out (by omega))).len.1; have := Hlens.out; omega)).mono ?_
  rintro e w18 ⟨rfl, hb18⟩
  have S18 := Lib.hid hb18
  have z18 : w17.heap.size ≤ w18.heap.size := S18.out.size
  clear hb18
  go_wp2_with ((go_at_call 20; refine num_any.mono ?_; rintro e w' ⟨rfl, rfl⟩))
  refine (same_below (((((((((((G_by.out).next S9.out).next S10.out).next S11.out).next S12.out).next S13.out).next S14.out).outside S15.out (by omega)).next S16.out).outside S17.out (by omega)).next S18.out).reads (((((G_y.out).outside S15.out (by omega)).next S16.out).outside S17.out (by omega)).next S18.out).reads ((((((((((((G_by.out).next S9.out).next S10.out).next S11.out).next S12.out).next S13.out).next S14.out).outside S15.out (by omega)).next S16.out).outside S17.out (by omega)).next S18.out).len.1) ((((((G_y.out).outside S15.out (by omega)).next S16.out).outside S17.out (by omega)).next S18.out).len.1) (by have := ((((((((((((G_by.out).next S9.out).next S10.out).next S11.out).next S12.out).next S13.out).next S14.out).outside S15.out (by omega)).next S16.out).outside S17.out (by omega)).next S18.out)).len.1; have := Hlens.out; omega)).mono ?_
  rintro e w19 ⟨rfl, hb19⟩
  have S19 := Lib.hid hb19
  have z19 : w18.heap.size ≤ w19.heap.size := S19.out.size
  clear hb19
  go_wp2_with ((go_at_call 20; refine num_any.mono ?_; rintro e w' ⟨rfl, rfl⟩))
  refine (rtext_s HST.out (rtext_any (c := c) (((((((((((((((((((HR.out).next S1.out).next S2.out).next S4.out).next S5.out).next S6.out).next S7.out).next S8.out).next S9.out).next S10.out).next S11.out).next S12.out).next S13.out).next S14.out).far (S15.out.below (by omega)) (by omega)).next S16.out).far (S17.out.below (by omega)) (by omega)).next S18.out).next S19.out).1 (((((((((((((((((((HR.out).next S1.out).next S2.out).next S4.out).next S5.out).next S6.out).next S7.out).next S8.out).next S9.out).next S10.out).next S11.out).next S12.out).next S13.out).next S14.out).far (S15.out.below (by omega)) (by omega)).next S16.out).far (S17.out.below (by omega)) (by omega)).next S18.out).next S19.out).2 Hn.out HL.out (by omega))).mono ?_
  rintro e w20 ⟨rfl, hb20⟩
  have S20 := Lib.hid hb20
  have z20 : w19.heap.size ≤ w20.heap.size := S20.out.size
  clear hb20
  have hzs : ((n13 : Int) == 0) = false := by have h1 := Hs.out.1; have h2 := Hs1.out; simp; omega
  go_wp2_with ((go_at_call 20; refine num_any.mono ?_; rintro e w' ⟨rfl, rfl⟩))
  refine (HRR.out w20 ((((((((G_s.out).next S14.out).outside S15.out (by omega)).next S16.out).outside S17.out (by omega)).next S18.out).next S19.out).next S20.out) Hs.out).mono ?_
  rintro e w21 ⟨A21, n21, c21, rfl, hr21, hn21, hb21⟩
  have S21 := Lib.hid hb21
  have z21 : w20.heap.size ≤ w21.heap.size := S21.out.size
  clear hb21
  have G_r := Lib.hid hr21
  have N_r := Lib.hid hn21
  clear hr21 hn21
  go_wp2_with ((go_at_call 20; refine num_any.mono ?_; rintro e w' ⟨rfl, rfl⟩))
  refine (same_below (((((((((((((G_root.out).next S10.out).next S11.out).next S12.out).next S13.out).next S14.out).outside S15.out (by omega)).next S16.out).outside S17.out (by omega)).next S18.out).next S19.out).next S20.out).next S21.out).reads (G_r.out).1 ((((((((((((((G_root.out).next S10.out).next S11.out).next S12.out).next S13.out).next S14.out).outside S15.out (by omega)).next S16.out).outside S17.out (by omega)).next S18.out).next S19.out).next S20.out).next S21.out).len.1) N_r.out (by have := ((((((((((((((G_root.out).next S10.out).next S11.out).next S12.out).next S13.out).next S14.out).outside S15.out (by omega)).next S16.out).outside S17.out (by omega)).next S18.out).next S19.out).next S20.out).next S21.out)).len.1; have := Hlens.out; omega)).mono ?_
  rintro e w22 ⟨rfl, hb22⟩
  have S22 := Lib.hid hb22
  have z22 : w21.heap.size ≤ w22.heap.size := S22.out.size
  clear hb22
  go_wp2_with ((go_at_call 20; refine num_any.mono ?_; rintro e w' ⟨rfl, rfl⟩))
  refine (left_any (c' := c) ((((((((((((((((((((G_m.out).next S4.out).next S5.out).next S6.out).next S7.out).next S8.out).next S9.out).next S10.out).next S11.out).next S12.out).next S13.out).next S14.out).far (S15.out.below (by omega)) (by omega)).next S16.out).far (S17.out.below (by omega)) (by omega)).next S18.out).next S19.out).next S20.out).next S21.out).next S22.out).1 ((((((((((((((((((((((HR.out).next S1.out).next S2.out).next S4.out).next S5.out).next S6.out).next S7.out).next S8.out).next S9.out).next S10.out).next S11.out).next S12.out).next S13.out).next S14.out).far (S15.out.below (by omega)) (by omega)).next S16.out).far (S17.out.below (by omega)) (by omega)).next S18.out).next S19.out).next S20.out).next S21.out).next S22.out).1 Hn.out Hn.out hc2 (by omega)).mono ?_
  rintro e w23 ⟨rfl, hb23⟩
  have S23 := Lib.hid hb23
  have z23 : w22.heap.size ≤ w23.heap.size := S23.out.size
  clear hb23
  go_wp2_with ((go_at_call 20; refine num_any.mono ?_; rintro e w' ⟨rfl, rfl⟩))
  refine (known_any (((((((((((((((((((((((HT.out).next S1.out).next S2.out).next S4.out).next S5.out).next S6.out).next S7.out).next S8.out).next S9.out).next S10.out).next S11.out).next S12.out).next S13.out).next S14.out).far (S15.out.below (by omega)) (by omega)).next S16.out).far (S17.out.below (by omega)) (by omega)).next S18.out).next S19.out).next S20.out).next S21.out).next S22.out).next S23.out).1 (((((((((((((((((((((((HT.out).next S1.out).next S2.out).next S4.out).next S5.out).next S6.out).next S7.out).next S8.out).next S9.out).next S10.out).next S11.out).next S12.out).next S13.out).next S14.out).far (S15.out.below (by omega)) (by omega)).next S16.out).far (S17.out.below (by omega)) (by omega)).next S18.out).next S19.out).next S20.out).next S21.out).next S22.out).next S23.out).2).mono ?_
  rintro e w24 ⟨rfl, hb24⟩
  have S24 := Lib.hid hb24
  have z24 : w23.heap.size ≤ w24.heap.size := S24.out.size
  clear hb24
  have BB := Lib.hid ((((((((((((((((((((((((Below.refl w.heap.size w).trans (S1.out.mono (by omega))).trans (S2.out.mono (by omega))).trans (S4.out.mono (by omega))).trans (S5.out.mono (by omega))).trans (S6.out.mono (by omega))).trans (S7.out.mono (by omega))).trans (S8.out.mono (by omega))).trans (S9.out.mono (by omega))).trans (S10.out.mono (by omega))).trans (S11.out.mono (by omega))).trans (S12.out.mono (by omega))).trans (S13.out.mono (by omega))).trans (S14.out.mono (by omega))).trans ((S15.out.below (by omega)).mono (by omega))).trans (S16.out.mono (by omega))).trans ((S17.out.below (by omega)).mono (by omega))).trans (S18.out.mono (by omega))).trans (S19.out.mono (by omega))).trans (S20.out.mono (by omega))).trans (S21.out.mono (by omega))).trans (S22.out.mono (by omega))).trans (S23.out.mono (by omega))).trans (S24.out.mono (by omega)))
  go_wp2_with fail
  go_ret
  exact ⟨rfl, BB.out⟩
end Go.Proofs.YtmjnhpagoboejaaDoor
