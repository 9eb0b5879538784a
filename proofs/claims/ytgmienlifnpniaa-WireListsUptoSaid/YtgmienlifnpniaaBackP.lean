/- What is written is read as it was; what is read is written as it was: plain words, no walk. -/
import Derived.Test.YtgmienlifnpniaaRdFrac
namespace Go.Proofs.Ytgmienlifnpniaa
open Go.RowKit
namespace Wire

/-- the digits ahead of the last one are read -/
theorem numGo_hi : ∀ (n : Nat) (M : Nat), M ≤ n → 0 < M → M < 18446744073709551616 → ∀ s : List UInt8, numGo (hi M ++ s) true 0 0 = numGo s false M (hi M).length
  | 0, M, h, h0, _, _ => by omega
  | n + 1, M, h, h0, h1, s => by
    have hd : (UInt8.ofNat (M % 128 + 128)).toNat = M % 128 + 128 := byte_hi M
    have hlt : ¬ (UInt8.ofNat (M % 128 + 128) < 128) := by
      rw [UInt8.lt_iff_toNat_lt, hd]
      show ¬ (_ < 128)
      omega
    have hm : (UInt8.ofNat (M % 128 + 128)).toNat % 128 = M % 128 := by rw [hd]; omega
    rw [hi_pos h0, List.append_assoc, List.length_append, List.length_singleton]
    by_cases hz : M / 128 = 0
    · rw [hz, hi_zero, List.nil_append, List.singleton_append]
      have hne : (UInt8.ofNat (M % 128 + 128) == 128) = false := by
        rw [beq_eq_false_iff_ne]
        intro e
        have := congrArg UInt8.toNat e
        rw [hd] at this
        have e2 : (128 : UInt8).toNat = 128 := rfl
        omega
      rw [numGo, hne]
      rw [if_neg (by simp), if_neg hlt, hm]
      rw [show 0 * 128 + M % 128 = M by omega]
      rfl
    · rw [numGo_hi n (M / 128) (by omega) (by omega) (by omega), List.singleton_append, numGo, if_neg (by simp; omega), if_neg hlt, hm, show M / 128 * 128 + M % 128 = M by omega]

/-- a number's form is read as that number -/
theorem num_form {n : Nat} (h : n < 18446744073709551616) (s : List UInt8) : num (form n ++ s) = .ok n (form n).length := by
  have hd : (UInt8.ofNat (n % 128)).toNat = n % 128 := byte_lo n
  have hlt : UInt8.ofNat (n % 128) < 128 := by
    rw [UInt8.lt_iff_toNat_lt, hd]
    show _ < 128
    omega
  have hm : (UInt8.ofNat (n % 128)).toNat % 128 = n % 128 := by rw [hd]; omega
  have hne : (UInt8.ofNat (n % 128) == 128) = false := by
    rw [beq_eq_false_iff_ne]
    intro e
    have := congrArg UInt8.toNat e
    rw [hd] at this
    have e2 : (128 : UInt8).toNat = 128 := rfl
    omega
  unfold num form
  rw [List.append_assoc, List.length_append, List.length_singleton]
  by_cases hz : n / 128 = 0
  · rw [hz, hi_zero, List.nil_append, List.singleton_append, numGo, hne]
    rw [if_neg (by simp), if_pos hlt, hm, show 0 * 128 + n % 128 = n by omega]
    rfl
  · rw [numGo_hi _ (n / 128) (Nat.le_refl _) (by omega) (by omega), List.singleton_append, numGo, if_neg (by simp; omega), if_pos hlt, hm, show n / 128 * 128 + n % 128 = n by omega]

/-- a byte less: it ends within -/
theorem num_short {n : Nat} (h : n < 18446744073709551616) : num ((form n).take ((form n).length - 1)) = .err 110 := by
  have e : (form n).take ((form n).length - 1) = hi (n / 128) := by
    unfold form
    rw [List.length_append, List.length_singleton, Nat.add_sub_cancel, List.take_left]
  rw [e]
  unfold num
  by_cases hz : n / 128 = 0
  · rw [hz, hi_zero]; rfl
  · have := numGo_hi _ (n / 128) (Nat.le_refl _) (by omega) (by omega) []
    rw [List.append_nil] at this
    rw [this]
    rfl

theorem numGo_take : ∀ (r : List UInt8) (n k a m : Nat), 0 < n → numGo r false n k = .ok a m → ∃ p t, r = p ++ t ∧ form a = hi n ++ p ∧ m = k + p.length
  | [], _, _, _, _, _, h => by simp [numGo] at h
  | c :: r, n, k, a, m, h0, h => by
    unfold numGo at h
    have hc := c.toNat_lt
    split at h
    · cases h
    · split at h
      · rename_i hlt
        have hl : c.toNat < 128 := by rw [UInt8.lt_iff_toNat_lt] at hlt; exact hlt
        injection h with e1 e2
        subst e1 e2
        refine ⟨[c], r, rfl, ?_, rfl⟩
        unfold form
        rw [show (n * 128 + c.toNat % 128) / 128 = n by omega, show (n * 128 + c.toNat % 128) % 128 = c.toNat by omega]
        simp
      · rename_i hlt
        have hl : 128 ≤ c.toNat := by
          rw [UInt8.lt_iff_toNat_lt] at hlt
          have : ¬ (c.toNat < 128) := hlt
          omega
        obtain ⟨p, t, e1, e2, e3⟩ := numGo_take r _ _ _ _ (by omega) h
        refine ⟨c :: p, t, by rw [e1]; rfl, ?_, by rw [e3, List.length_cons]; omega⟩
        rw [e2, hi_pos (by omega), show (n * 128 + c.toNat % 128) / 128 = n by omega, show (n * 128 + c.toNat % 128) % 128 + 128 = c.toNat by omega]
        simp

/-- what is read as a number is its form -/
theorem num_take {r : List UInt8} {a m : Nat} (h : num r = .ok a m) : form a = r.take m := by
  cases r with
  | nil => simp [num, numGo] at h
  | cons c r =>
    unfold num numGo at h
    have hc := c.toNat_lt
    split at h
    · cases h
    · rename_i hf
      split at h
      · rename_i hlt
        have hl : c.toNat < 128 := by rw [UInt8.lt_iff_toNat_lt] at hlt; exact hlt
        injection h with e1 e2
        subst e1 e2
        rw [show 0 * 128 + c.toNat % 128 = c.toNat by omega, form_small hl]
        simp
      · rename_i hlt
        have hl : 128 ≤ c.toNat := by
          rw [UInt8.lt_iff_toNat_lt] at hlt
          have : ¬ (c.toNat < 128) := hlt
          omega
        have hne : c.toNat ≠ 128 := by
          intro e
          apply hf
          have : c = 128 := UInt8.toNat_inj.1 e
          rw [this]
          rfl
        obtain ⟨p, t, e1, e2, e3⟩ := numGo_take r _ _ _ _ (by omega) h
        rw [e2, hi_pos (by omega), show (0 * 128 + c.toNat % 128) / 128 = 0 by omega, hi_zero, show (0 * 128 + c.toNat % 128) % 128 + 128 = c.toNat by omega, e3, e1]
        rw [show 0 + 1 + p.length = p.length + 1 by omega, List.take_succ_cons, List.take_left]
        simp

theorem unfold_fold (n : Int) : unfold_ (fold n) = n := by
  unfold fold unfold_
  split <;> split <;> omega

theorem text_form (s t : List UInt8) (h : s.length < 9223372036854775808) : text (s.length : Int) (form s.length ++ s ++ t) = .ok s ((form s.length).length + s.length) := by
  unfold text
  rw [if_neg (by omega), List.append_assoc, num_form (by omega)]
  simp only
  rw [if_neg (by omega), if_neg (by simp), List.drop_left, List.take_left]

theorem beV_be8 {u : Nat} (h : u < 18446744073709551616) : beV (be8 u) = u := by
  unfold beV be8
  simp only [List.foldl_cons, List.foldl_nil, UInt8.toNat_ofNat']
  omega
theorem flt_be8 {x : Nat} (h : x < 18446744073709551616) (s : List UInt8) : flt (be8 (canon x) ++ s) = .ok (canon x) 8 := by
  have hl := be8_len (canon x)
  have e : (be8 (canon x) ++ s).take 8 = be8 (canon x) := by rw [← hl, List.take_left]
  unfold flt
  rw [if_neg (by rw [List.length_append, hl]; omega), e, beV_be8 (canon_lt h), if_pos (canon_canon x)]
theorem both_flt {x y : Nat} (hx : x < 18446744073709551616) (hy : y < 18446744073709551616) (s : List UInt8) : both flt (be8 (canon x) ++ be8 (canon y) ++ s) = .ok (canon x, canon y) 16 := by
  refine both3 (k := 8) (m := 8) (by rw [List.append_assoc]; exact flt_be8 hx _) ?_
  rw [List.append_assoc, ← be8_len (canon x), List.drop_left]
  exact flt_be8 hy s

theorem whole_form {n : Bool} {m : ByteArray} (s : List UInt8) (hp : plainW 16384 n m.data.toList = true) : whole (formW n m.data.toList ++ s) = .ok (n, m) (formW n m.data.toList).length := by
  have hl : m.data.toList.length = m.size := Array.length_toList
  have hs := plain_len hp
  have hb : n.toNat ≤ 1 := Bool.toNat_le n
  unfold whole formW
  rw [List.append_assoc, num_form (by omega)]
  simp only
  rw [if_neg (by omega), if_neg (by simp; omega), List.drop_left, show (2 * m.data.toList.length + n.toNat) / 2 = m.data.toList.length by omega, List.take_left]
  have e : decide ((2 * m.data.toList.length + n.toNat) % 2 = 1) = n := by
    cases n
    · simp
    · simp
  rw [e, if_pos hp, List.length_append]
theorem whole_take {r : List UInt8} {n : Bool} {m : ByteArray} {k : Nat} (h : whole r = .ok (n, m) k) : formW n m.data.toList = r.take k ∧ k ≤ r.length := by
  unfold whole at h
  split at h
  · cases h
  · rename_i a j hn
    have hn2 := num_take hn
    have hn3 := num_bd hn
    split at h
    · cases h
    · split at h
      · cases h
      · split at h
        · injection h with h h'
          injection h with h1 h2
          subst h1 h2 h'
          rename_i h5 h6 _
          have e : ((List.drop j r).take (a / 2)).length = a / 2 := by
            rw [List.length_take, List.length_drop]; omega
          unfold formW
          rw [e]
          refine ⟨?_, by omega⟩
          have e2 : 2 * (a / 2) + (decide (a % 2 = 1)).toNat = a := by
            by_cases h7 : a % 2 = 1
            · rw [decide_eq_true h7]; show 2 * (a / 2) + 1 = a; omega
            · rw [decide_eq_false h7]; show 2 * (a / 2) + 0 = a; omega
          rw [e2, hn2, List.take_add]
        · cases h
theorem frac_form {n1 n2 : Bool} {s1 s2 : ByteArray} (t : List UInt8) (hp : fracP n1 s1 n2 s2 = true) : frac (formF n1 s1 n2 s2 ++ t) = .ok ((n1, s1), (n2, s2)) (formF n1 s1 n2 s2).length := by
  have hp' := hp
  unfold fracP at hp'
  simp only [Bool.and_eq_true] at hp'
  have up : ∀ {n : Bool} {s : ByteArray}, plainW 1024 n s.data.toList = true → plainW 16384 n s.data.toList = true := by
    intro n s h
    unfold plainW at h ⊢
    split at h
    · exact h
    · rename_i heq
      simp only [Bool.and_eq_true, decide_eq_true_eq] at h ⊢
      exact ⟨by omega, h.2⟩
  have hb : both whole (formF n1 s1 n2 s2 ++ t) = .ok ((n1, s1), (n2, s2)) (formF n1 s1 n2 s2).length := by
    unfold formF
    rw [List.length_append]
    refine both3 (by rw [List.append_assoc]; exact whole_form _ (up hp'.1)) ?_
    rw [List.append_assoc, List.drop_left]
    exact whole_form _ (up hp'.2.1)
  unfold frac
  rw [hb]
  simp only
  rw [if_pos hp]
theorem both_take {α : Type} {p : List UInt8 → Res α} {f : α → List UInt8} (hp : ∀ {r x k}, p r = .ok x k → f x = r.take k ∧ k ≤ r.length) {r : List UInt8} {x y : α} {k : Nat} (h : both p r = .ok (x, y) k) :
    f x ++ f y = r.take k ∧ k ≤ r.length := by
  unfold both at h
  split at h
  · cases h
  · rename_i h1
    split at h
    · cases h
    · rename_i h2
      injection h with h h'
      injection h with ha hb
      subst ha hb h'
      obtain ⟨a1, a2⟩ := hp h1
      obtain ⟨b1, b2⟩ := hp h2
      rw [List.length_drop] at b2
      exact ⟨by rw [a1, b1, List.take_add], by omega⟩
theorem frac_take {r : List UInt8} {x : (Bool × ByteArray) × (Bool × ByteArray)} {k : Nat} (h : frac r = .ok x k) : formF x.1.1 x.1.2 x.2.1 x.2.2 = r.take k ∧ k ≤ r.length := by
  unfold frac at h
  split at h
  · cases h
  · rename_i hb
    split at h
    · injection h with h1 h2
      subst h1 h2
      exact both_take (f := fun x : Bool × ByteArray => formW x.1 x.2.data.toList) (fun {r x k} h => whole_take (n := x.1) (m := x.2) h) hb
    · cases h
theorem frac_plain {r : List UInt8} {x : (Bool × ByteArray) × (Bool × ByteArray)} {k : Nat} (h : frac r = .ok x k) : fracP x.1.1 x.1.2 x.2.1 x.2.2 = true := by
  unfold frac at h
  split at h
  · cases h
  · split at h
    · rename_i hp
      injection h with h1 h2
      subst h1
      exact hp
    · cases h
/-- an exact complex number -/
def formG (x : ((Bool × ByteArray) × (Bool × ByteArray)) × ((Bool × ByteArray) × (Bool × ByteArray))) : List UInt8 :=
  formF x.1.1.1 x.1.1.2 x.1.2.1 x.1.2.2 ++ formF x.2.1.1 x.2.1.2 x.2.2.1 x.2.2.2
def gaussP (x : ((Bool × ByteArray) × (Bool × ByteArray)) × ((Bool × ByteArray) × (Bool × ByteArray))) : Bool :=
  fracP x.1.1.1 x.1.1.2 x.1.2.1 x.1.2.2 && fracP x.2.1.1 x.2.1.2 x.2.2.1 x.2.2.2
theorem gauss_form {x : ((Bool × ByteArray) × (Bool × ByteArray)) × ((Bool × ByteArray) × (Bool × ByteArray))} (t : List UInt8) (hp : gaussP x = true) : both frac (formG x ++ t) = .ok x (formG x).length := by
  obtain ⟨⟨⟨a, b⟩, ⟨c, d⟩⟩, ⟨⟨e, f⟩, ⟨g, h⟩⟩⟩ := x
  unfold gaussP at hp
  simp only [Bool.and_eq_true] at hp
  unfold formG
  simp only
  rw [List.length_append]
  refine both3 (by rw [List.append_assoc]; exact frac_form _ hp.1) ?_
  rw [List.append_assoc, List.drop_left]
  exact frac_form _ hp.2
theorem gauss_take {r : List UInt8} {x : ((Bool × ByteArray) × (Bool × ByteArray)) × ((Bool × ByteArray) × (Bool × ByteArray))} {k : Nat} (h : both frac r = .ok x k) : formG x = r.take k ∧ k ≤ r.length :=
  both_take (f := fun x : (Bool × ByteArray) × (Bool × ByteArray) => formF x.1.1 x.1.2 x.2.1 x.2.2) (fun h => frac_take h) h
theorem gauss_plain {r : List UInt8} {x : ((Bool × ByteArray) × (Bool × ByteArray)) × ((Bool × ByteArray) × (Bool × ByteArray))} {k : Nat} (h : both frac r = .ok x k) : gaussP x = true := by
  unfold both at h
  split at h
  · cases h
  · rename_i h1
    split at h
    · cases h
    · rename_i h2
      injection h with h h'
      subst h
      unfold gaussP
      simp only [Bool.and_eq_true]
      exact ⟨frac_plain h1, frac_plain h2⟩
end Wire
end Go.Proofs.Ytgmienlifnpniaa
