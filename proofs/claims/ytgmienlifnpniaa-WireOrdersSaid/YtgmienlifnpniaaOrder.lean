/- The forms of two numbers in order: no Go in sight. -/
import Derived.Test.YtgmienlifnpniaaForm
import GoSem.Op.String
namespace Go.Proofs.Ytgmienlifnpniaa
namespace Wire

theorem bl_irr : ∀ x : List UInt8, Op.bytesLess x x = false
  | [] => rfl
  | a :: x => by
    unfold Op.bytesLess
    rw [bl_irr x]
    simp

theorem bl_asymm : ∀ x y : List UInt8, Op.bytesLess x y = true → Op.bytesLess y x = false
  | [], [], h => by simp [Op.bytesLess] at h
  | [], _ :: _, _ => rfl
  | _ :: _, [], h => by simp [Op.bytesLess] at h
  | a :: x, b :: y, h => by
    unfold Op.bytesLess at h ⊢
    simp only [Bool.or_eq_true, Bool.and_eq_true, decide_eq_true_eq, beq_iff_eq] at h
    rcases h with h | ⟨rfl, h⟩
    · have h1 : ¬ b < a := by rw [UInt8.lt_iff_toNat_lt] at h ⊢; omega
      have h2 : ¬ b = a := by rintro rfl; rw [UInt8.lt_iff_toNat_lt] at h; omega
      simp [h1, h2]
    · rw [bl_asymm x y h]
      simp

theorem bl_snoc : ∀ (p q : List UInt8) (x y : UInt8), p.length = q.length → (Op.bytesLess p q = true ∨ (p = q ∧ x < y)) → Op.bytesLess (p ++ [x]) (q ++ [y]) = true
  | [], [], x, y, _, h => by
    rcases h with h | ⟨_, h⟩
    · simp [Op.bytesLess] at h
    · simp [Op.bytesLess, h]
  | a :: p, b :: q, x, y, hl, h => by
    have hl' : p.length = q.length := by simpa using hl
    simp only [List.cons_append]
    unfold Op.bytesLess
    simp only [Bool.or_eq_true, Bool.and_eq_true, decide_eq_true_eq, beq_iff_eq]
    rcases h with h | ⟨h, hx⟩
    · unfold Op.bytesLess at h
      simp only [Bool.or_eq_true, Bool.and_eq_true, decide_eq_true_eq, beq_iff_eq] at h
      rcases h with h | ⟨h1, h⟩
      · exact .inl h
      · exact .inr ⟨h1, bl_snoc p q x y hl' (.inl h)⟩
    · injection h with h1 h2
      exact .inr ⟨h1, bl_snoc p q x y hl' (.inr ⟨h2, hx⟩)⟩
  | [], _ :: _, _, _, hl, _ => by simp at hl
  | _ :: _, [], _, _, hl, _ => by simp at hl

def Ord (x y : List UInt8) : Prop := x.length < y.length ∨ (x.length = y.length ∧ Op.bytesLess x y = true)

theorem ord_snoc {p q : List UInt8} {x y : UInt8} (h : Ord p q ∨ (p = q ∧ x < y)) : Ord (p ++ [x]) (q ++ [y]) := by
  unfold Ord at *
  simp only [List.length_append, List.length_singleton]
  rcases h with (h | ⟨h1, h2⟩) | ⟨h1, h2⟩
  · exact .inl (by omega)
  · exact .inr ⟨by omega, bl_snoc _ _ _ _ h1 (.inl h2)⟩
  · subst h1
    exact .inr ⟨rfl, bl_snoc _ _ _ _ rfl (.inr ⟨rfl, h2⟩)⟩

theorem ord_hi : ∀ (n m : Nat), m < n → Ord (hi m) (hi n) := by
  intro n
  induction n using Nat.strongRecOn with
  | _ n ih =>
    intro m h
    rw [hi_pos (n := n) (by omega)]
    by_cases h0 : m = 0
    · subst h0
      rw [hi_zero]
      exact .inl (by simp)
    · rw [hi_pos (n := m) (by omega)]
      refine ord_snoc ?_
      by_cases hd : m / 128 < n / 128
      · exact .inl (ih _ (by omega) _ hd)
      · have e : m / 128 = n / 128 := by omega
        refine .inr ⟨by rw [e], ?_⟩
        rw [UInt8.lt_iff_toNat_lt, byte_hi, byte_hi]
        omega

theorem ord_form {m n : Nat} (h : m < n) : Ord (form m) (form n) := by
  unfold form
  refine ord_snoc ?_
  by_cases hd : m / 128 < n / 128
  · exact .inl (ord_hi _ _ hd)
  · have e : m / 128 = n / 128 := by omega
    refine .inr ⟨by rw [e], ?_⟩
    rw [UInt8.lt_iff_toNat_lt, byte_lo, byte_lo]
    omega

theorem ord_irr (x : List UInt8) : ¬ Ord x x := by
  rintro (h | ⟨_, h⟩)
  · omega
  · rw [bl_irr] at h; cases h
theorem ord_asymm {x y : List UInt8} (h : Ord x y) : ¬ Ord y x := by
  rintro (h' | ⟨h1, h2⟩)
  · rcases h with h | ⟨h, _⟩ <;> omega
  · rcases h with h | ⟨_, h⟩
    · omega
    · rw [bl_asymm _ _ h] at h2; cases h2

theorem form_less (m n : Nat) : Ord (form m) (form n) ↔ m < n := by
  refine ⟨fun h => ?_, ord_form⟩
  rcases Nat.lt_or_ge m n with h1 | h1
  · exact h1
  · rcases Nat.lt_or_eq_of_le h1 with h2 | h2
    · exact absurd h (ord_asymm (ord_form h2))
    · subst h2
      exact absurd h (ord_irr _)
theorem form_eq (m n : Nat) : form m = form n ↔ m = n := by
  refine ⟨fun h => ?_, fun h => by rw [h]⟩
  rcases Nat.lt_trichotomy m n with h1 | h1 | h1
  · have := ord_form h1
    rw [h] at this
    exact absurd this (ord_irr _)
  · exact h1
  · have := ord_form h1
    rw [h] at this
    exact absurd this (ord_irr _)

end Wire
end Go.Proofs.Ytgmienlifnpniaa
