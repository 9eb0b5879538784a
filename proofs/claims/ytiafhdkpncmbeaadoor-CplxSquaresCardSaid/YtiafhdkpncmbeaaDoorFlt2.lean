import Derived.Test.YtiafhdkpncmbeaaDoorFlt
/- Floats, plain: what the operations on words answer, as rational numbers. -/
namespace Go.Proofs.YtiafhdkpncmbeaaDoor.Flt
open Ieee

/-- a number with its sign -/
def sg (s : Bool) (v : Rat) : Rat := if s then -v else v
/-- a word's worth -/
def Val (x : Nat) (r : Rat) : Prop := x < 18446744073709551616 ∧ ∃ s m p, double.read x = .number s m p ∧ r = sg s (m * P2 p)
/-- rounded: near, the same where a word can hold it, on the same side of nought -/
structure Fl (c r : Rat) : Prop where
  near : ∀ M, -M ≤ r → r ≤ M → r - (M * u + e) ≤ c ∧ c ≤ r + (M * u + e)
  same : (Rep r ∨ Rep (-r)) → c = r
  up : 0 ≤ r → 0 ≤ c
  down : r ≤ 0 → c ≤ 0

theorem u_pos : 0 < u := P2_pos _
theorem e_pos : 0 < e := P2_pos _
theorem mag_nonneg (m : Nat) (p : Int) : 0 ≤ (m : Rat) * P2 p := Rat.mul_nonneg (natCast_le (Nat.zero_le m)) (Rat.le_of_lt (P2_pos p))
theorem rep_zero : Rep 0 := ⟨0, 0, by decide, by decide, (Rat.zero_mul _).symm⟩

theorem nearest_lt (neg : Bool) (mag : Nat) (place : Int) : double.nearest neg mag place < 18446744073709551616 := by
  have h : ∀ r, double.word neg (min r double.infRung) < 18446744073709551616 := by
    intro r
    have e1 : double.infRung = 2047 * 2 ^ 52 := rfl
    have e2 : double.signWeight = 2 ^ 63 := rfl
    unfold Format.word
    rw [e1, e2]
    cases neg <;> simp <;> omega
  unfold Format.nearest
  split
  · have := h 0
    rw [Nat.zero_min] at this; exact this
  · exact h _

theorem nearest_val (neg : Bool) (mag : Nat) (place : Int) (r : Rat) (hr : r = sg neg (mag * P2 place)) (h1 : -P2 1000 < r) (h2 : r < P2 1000) :
    ∃ c, Val (double.nearest neg mag place) c ∧ Fl c r := by
  have hv := mag_nonneg mag place
  have hb : (mag : Rat) * P2 place < P2 1000 := by
    cases neg <;> simp only [sg] at hr <;> grind
  obtain ⟨m, p, k1, k2, k3, k4⟩ := nearest_ok neg mag place hb
  have hm := mag_nonneg m p
  clear h1 h2 hb
  generalize hV : (mag : Rat) * P2 place = v at *
  generalize hC : (m : Rat) * P2 p = c at *
  have hu := u_pos
  have he := e_pos
  refine ⟨sg neg c, ⟨nearest_lt neg mag place, neg, m, p, k1, by rw [hC]⟩, ?_, ?_, ?_, ?_⟩
  · intro M hM1 hM2
    have hvM : v ≤ M := by cases neg <;> simp only [sg] at hr <;> grind
    have := Rat.mul_le_mul_of_nonneg_right hvM (Rat.le_of_lt hu)
    cases neg <;> simp only [sg] at hr ⊢ <;> subst hr <;> constructor <;> grind
  · intro hrep
    rw [hr]
    congr 1
    refine k4 ?_
    cases neg
    · simp only [sg] at hr
      rcases hrep with h | h
      · have : r = v := by simpa using hr
        rw [← this]; exact h
      · have : v = 0 := by
          obtain ⟨k, q, _, _, hk⟩ := h
          have := mag_nonneg k q
          grind
        rw [this]; exact rep_zero
    · simp only [sg] at hr
      rcases hrep with h | h
      · have : v = 0 := by
          obtain ⟨k, q, _, _, hk⟩ := h
          have := mag_nonneg k q
          grind
        rw [this]; exact rep_zero
      · have : -r = v := by rw [hr]; grind
        rw [← this]; exact h
  · intro h0
    cases neg
    · simp only [sg] at hr ⊢; grind
    · have : v = 0 := by simp only [sg] at hr; grind
      have : c = v := k4 (by rw [this]; exact rep_zero)
      simp only [sg]; grind
  · intro h0
    cases neg
    · have : v = 0 := by simp only [sg] at hr; grind
      have : c = v := k4 (by rw [this]; exact rep_zero)
      simp only [sg]; grind
    · simp only [sg] at hr ⊢; grind

theorem sg_xor (s t : Bool) (a b : Rat) : sg (s ^^ t) (a * b) = sg s a * sg t b := by
  cases s <;> cases t <;> simp [sg] <;> grind

/-- THE PRODUCT -/
theorem mul_val {x y : Nat} {a b : Rat} (hx : Val x a) (hy : Val y b) (h1 : -P2 1000 < a * b) (h2 : a * b < P2 1000) :
    ∃ z c, double.mul x y = some z ∧ Val z c ∧ Fl c (a * b) := by
  obtain ⟨-, s, m, i, hx, rfl⟩ := hx
  obtain ⟨-, t, n, j, hy, rfl⟩ := hy
  have hr : sg s (m * P2 i) * sg t (n * P2 j) = sg (s ^^ t) ((m * n : Nat) * P2 (i + j)) := by
    clear h1 h2
    rw [← sg_xor, Rat.natCast_mul, P2_add]; congr 1; grind
  obtain ⟨c, hc, hf⟩ := nearest_val (s ^^ t) (m * n) (i + j) _ hr h1 h2
  refine ⟨_, c, ?_, hc, hf⟩
  unfold Format.mul
  rw [hx, hy]
  rfl

theorem signed_val (s : Bool) (m k : Nat) (b : Int) : ((signed s m k : Int) : Rat) * P2 b = sg s (m * P2 (b + k)) := by
  unfold signed
  rw [P2_add, P2_nat]
  cases s <;> simp only [sg, Nat.shiftLeft_eq, Bool.false_eq_true, if_false, if_true]
  · rw [Rat.intCast_natCast, Rat.natCast_mul]; grind
  · rw [Rat.intCast_neg, Rat.intCast_natCast, Rat.natCast_mul]; grind

theorem sum_val {d f : Datum} {s t : Bool} {m n : Nat} {i j : Int} (hd : d = .number s m i) (hf : f = .number t n j)
    (h1 : -P2 1000 < sg s (m * P2 i) + sg t (n * P2 j)) (h2 : sg s (m * P2 i) + sg t (n * P2 j) < P2 1000) :
    ∃ z c, ((d.sum f).map double.write) = some z ∧ Val z c ∧ Fl c (sg s (m * P2 i) + sg t (n * P2 j)) := by
  subst hd hf
  simp only [Datum.sum, Option.map]
  generalize hb : min i j = base
  generalize hT : signed s m (i - base).toNat + signed t n (j - base).toNat = T
  have hv : (T : Rat) * P2 base = sg s (m * P2 i) + sg t (n * P2 j) := by
    rw [← hT, Rat.intCast_add, Rat.add_mul, signed_val, signed_val]
    have e1 : base + ((i - base).toNat : Int) = i := by omega
    have e2 : base + ((j - base).toNat : Int) = j := by omega
    rw [e1, e2]
  have hr : sg s (m * P2 i) + sg t (n * P2 j) = sg (if T = 0 then s && t else decide (T < 0)) (T.natAbs * P2 base) := by
    rw [← hv]
    by_cases h0 : T = 0
    · subst h0
      have : (((0 : Int).natAbs : Nat) : Rat) = 0 := rfl
      rw [this]
      have h3 : ((0 : Int) : Rat) = 0 := rfl
      rw [h3]
      generalize (if (0 : Int) = 0 then s && t else decide ((0 : Int) < 0)) = w
      cases w <;> simp [sg]
    · rw [if_neg h0]
      by_cases hn : T < 0
      · have h3 : T = -((T.natAbs : Nat) : Int) := by omega
        have h4 : (T : Rat) = -((T.natAbs : Nat) : Rat) := by
          conv => lhs; rw [h3]
          rw [Rat.intCast_neg, Rat.intCast_natCast]
        rw [h4]; simp only [hn, decide_true, sg, if_true]; grind
      · have h3 : T = ((T.natAbs : Nat) : Int) := by omega
        have h4 : (T : Rat) = ((T.natAbs : Nat) : Rat) := by
          conv => lhs; rw [h3]
          rw [Rat.intCast_natCast]
        rw [h4]; simp only [hn, decide_false, sg, Bool.false_eq_true, if_false]
  obtain ⟨c, hc, hf⟩ := nearest_val _ _ _ _ hr h1 h2
  exact ⟨_, c, rfl, hc, hf⟩

/-- THE SUM -/
theorem add_val {x y : Nat} {a b : Rat} (hx : Val x a) (hy : Val y b) (h1 : -P2 1000 < a + b) (h2 : a + b < P2 1000) :
    ∃ z c, double.add x y = some z ∧ Val z c ∧ Fl c (a + b) := by
  obtain ⟨-, s, m, i, hx, rfl⟩ := hx
  obtain ⟨-, t, n, j, hy, rfl⟩ := hy
  exact sum_val hx hy h1 h2

theorem sg_not (s : Bool) (v : Rat) : sg (!s) v = -sg s v := by cases s <;> simp [sg]

/-- THE DIFFERENCE -/
theorem sub_val {x y : Nat} {a b : Rat} (hx : Val x a) (hy : Val y b) (h1 : -P2 1000 < a - b) (h2 : a - b < P2 1000) :
    ∃ z c, double.sub x y = some z ∧ Val z c ∧ Fl c (a - b) := by
  obtain ⟨-, s, m, i, hx, rfl⟩ := hx
  obtain ⟨-, t, n, j, hy, rfl⟩ := hy
  have ho : (double.read y).opposite = .number (!t) n j := by rw [hy]; rfl
  have e1 : sg s (m * P2 i) - sg t (n * P2 j) = sg s (m * P2 i) + sg (!t) (n * P2 j) := by rw [sg_not]; grind
  rw [e1] at h1 h2 ⊢
  exact sum_val hx ho h1 h2

/-- HOW TWO STAND -/
theorem order_val {x y : Nat} {a b : Rat} (hx : Val x a) (hy : Val y b) :
    double.order x y = some (if a < b then .lt else if a = b then .eq else .gt) := by
  obtain ⟨-, s, m, i, hx, rfl⟩ := hx
  obtain ⟨-, t, n, j, hy, rfl⟩ := hy
  unfold Format.order
  rw [hx, hy]
  simp only [Datum.order]
  generalize hb : min i j = base
  have ha : ((signed s m (i - base).toNat : Int) : Rat) * P2 base = sg s (m * P2 i) := by
    rw [signed_val]
    have e1 : base + ((i - base).toNat : Int) = i := by omega
    rw [e1]
  have hbb : ((signed t n (j - base).toNat : Int) : Rat) * P2 base = sg t (n * P2 j) := by
    rw [signed_val]
    have e1 : base + ((j - base).toNat : Int) = j := by omega
    rw [e1]
  rw [← ha, ← hbb]
  generalize signed s m (i - base).toNat = A
  generalize signed t n (j - base).toNat = B
  have hp := P2_pos base
  congr 1
  rcases Int.lt_trichotomy A B with h | h | h
  · have h3 := Rat.mul_lt_mul_of_pos_right (Rat.intCast_lt_intCast.mpr h) hp
    rw [if_pos h3]; exact Int.compare_eq_lt.mpr h
  · subst h
    rw [if_neg (by grind), if_pos rfl]; exact Int.compare_eq_eq.mpr rfl
  · have h3 := Rat.mul_lt_mul_of_pos_right (Rat.intCast_lt_intCast.mpr h) hp
    rw [if_neg (by grind), if_neg (by grind)]; exact Int.compare_eq_gt.mpr h

/-- OF A WHOLE NUMBER -/
theorem of_int (n : Int) (h1 : -9007199254740992 < n) (h2 : n < 9007199254740992) : Val (double.write (.number (n < 0) n.natAbs 0)) n := by
  have hr : (n : Rat) = sg (decide (n < 0)) ((n.natAbs : Nat) * P2 0) := by
    rw [P2_zero, Rat.mul_one]
    by_cases hn : n < 0
    · have h3 : n = -((n.natAbs : Nat) : Int) := by omega
      simp only [hn, decide_true, sg, if_true]
      conv => lhs; rw [h3]
      rw [Rat.intCast_neg, Rat.intCast_natCast]
    · have h3 : n = ((n.natAbs : Nat) : Int) := by omega
      simp only [hn, decide_false, sg, Bool.false_eq_true, if_false]
      conv => lhs; rw [h3]
      rw [Rat.intCast_natCast]
  have hbig : ((2 ^ 53 : Nat) : Rat) ≤ P2 1000 := by rw [← P2_nat]; exact P2_mono (by decide)
  have hnat : n.natAbs < 2 ^ 53 := by omega
  have hlt := natCast_lt hnat
  obtain ⟨c, hc, hf⟩ := nearest_val (decide (n < 0)) n.natAbs 0 n hr (by rw [hr, P2_zero, Rat.mul_one]; have : (0 : Rat) ≤ (n.natAbs : Rat) := natCast_le (Nat.zero_le _); cases decide (n < 0) <;> simp only [sg] <;> grind) (by rw [hr, P2_zero, Rat.mul_one]; have : (0 : Rat) ≤ (n.natAbs : Rat) := natCast_le (Nat.zero_le _); cases decide (n < 0) <;> simp only [sg] <;> grind)
  have : c = n := hf.same (by
    rw [hr]
    have hrep : Rep ((n.natAbs : Nat) * P2 0) := ⟨_, 0, hnat, by decide, rfl⟩
    cases decide (n < 0) <;> simp only [sg]
    · exact .inl hrep
    · refine .inr ?_
      rw [if_pos trivial, Rat.neg_neg]; exact hrep)
  rw [← this]; exact hc
end Go.Proofs.YtiafhdkpncmbeaaDoor.Flt
