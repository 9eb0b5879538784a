/- Lists of pairs, as plain functions: written, read, cut off. -/
import Derived.Test.YtgmienlifnpniaaBackP
import Derived.Test.YtgmienlifnpniaaTake
namespace Go.Proofs.Ytgmienlifnpniaa
open Go.RowKit
namespace Wire
def formP (p : Nat × Nat) : List UInt8 := form p.1 ++ form p.2
def body (l : List (Nat × Nat)) : List UInt8 := l.flatMap formP
def formPs (l : List (Nat × Nat)) : List UInt8 := form l.length ++ body l
/-- so many pairs, one behind the other -/
def pairs : Nat → List UInt8 → List (Nat × Nat) → Nat → Res (List (Nat × Nat))
  | 0, _, acc, k => .ok acc k
  | m + 1, r, acc, k => match both num r with
    | .err c => .err c
    | .ok x j => pairs m (r.drop j) (acc ++ [x]) (k + j)
def takeP (most : Int) (r : List UInt8) : Res (List (Nat × Nat)) :=
  if most < 0 then .err 2 else
  match num r with
  | .err c => .err c
  | .ok n k => if most < (n : Int) then .err 3 else pairs n (r.drop k) [] k
theorem num_err {r : List UInt8} {c : Nat} (h : num r = .err c) : c ≠ 0 := by
  rcases numGo_err _ _ _ _ _ h with rfl | rfl <;> omega
theorem pairs_err : ∀ (m : Nat) {r : List UInt8} {acc : List (Nat × Nat)} {k c : Nat}, pairs m r acc k = .err c → c ≠ 0
  | 0, _, _, _, _, h => by simp [pairs] at h
  | m + 1, r, acc, k, c, h => by
    unfold pairs at h
    split at h
    · rename_i hn
      injection h with h
      subst h
      exact both_err num_err hn
    · exact pairs_err m h
theorem takeP_err {most : Int} {r : List UInt8} {c : Nat} (h : takeP most r = .err c) : c ≠ 0 := by
  unfold takeP at h
  split at h
  · injection h with h; omega
  · split at h
    · rename_i hn
      injection h with h
      subst h
      exact num_err hn
    · split at h
      · injection h with h; omega
      · exact pairs_err _ h
theorem body_nil : body [] = [] := rfl
theorem body_cons (p : Nat × Nat) (l : List (Nat × Nat)) : body (p :: l) = formP p ++ body l := rfl
theorem body_snoc (l : List (Nat × Nat)) (p : Nat × Nat) : body (l ++ [p]) = body l ++ formP p := by unfold body; rw [List.flatMap_append]; simp
def Small (l : List (Nat × Nat)) : Prop := ∀ p ∈ l, p.1 < 18446744073709551616 ∧ p.2 < 18446744073709551616
theorem both_formP {p : Nat × Nat} (h1 : p.1 < 18446744073709551616) (h2 : p.2 < 18446744073709551616) (s : List UInt8) : both num (formP p ++ s) = .ok p (formP p).length := by
  unfold formP
  rw [List.length_append]
  refine both3 (by rw [List.append_assoc]; exact num_form h1 _) ?_
  rw [List.append_assoc, List.drop_left]
  exact num_form h2 _
theorem pairs_body : ∀ (l : List (Nat × Nat)) (acc : List (Nat × Nat)) (k : Nat) (s : List UInt8), Small l → pairs l.length (body l ++ s) acc k = .ok (acc ++ l) (k + (body l).length)
  | [], acc, k, s, _ => by simp [pairs, body_nil]
  | p :: l, acc, k, s, h => by
    rw [List.length_cons, pairs, body_cons, List.append_assoc, both_formP (h p List.mem_cons_self).1 (h p List.mem_cons_self).2]
    simp only
    rw [List.drop_left, pairs_body l _ _ _ (fun q hq => h q (List.mem_cons_of_mem _ hq))]
    rw [List.append_assoc, List.singleton_append, List.length_append, Nat.add_assoc]
theorem takeP_form {l : List (Nat × Nat)} (h : Small l) (hl : l.length ≤ 1048576) : takeP (l.length : Int) (formPs l) = .ok l (formPs l).length := by
  unfold takeP formPs
  rw [if_neg (by omega), num_form (by omega)]
  simp only
  rw [if_neg (by omega), List.drop_left]
  have := pairs_body l [] (form l.length).length [] h
  rw [List.append_nil] at this
  rw [this, List.length_append]
  rfl
theorem takeP_less {l : List (Nat × Nat)} (hl : l.length ≤ 1048576) (h0 : 0 < l.length) : takeP ((l.length : Int) - 1) (formPs l) = .err 3 := by
  unfold takeP formPs
  rw [if_neg (by omega), num_form (by omega)]
  simp only
  rw [if_pos (by omega)]

theorem hi_take : ∀ (n M j : Nat), M ≤ n → j ≤ (hi M).length → ∃ M', M' ≤ M ∧ (hi M).take j = hi M'
  | 0, M, j, h, _ => ⟨0, Nat.zero_le _, by
      have : M = 0 := by omega
      subst this
      rw [hi_zero, List.take_nil]⟩
  | n + 1, M, j, h, hj => by
    by_cases hM : M = 0
    · subst hM
      exact ⟨0, Nat.zero_le _, by rw [hi_zero, List.take_nil]⟩
    · by_cases he : j = (hi M).length
      · exact ⟨M, Nat.le_refl _, by rw [he, List.take_length]⟩
      · have e := hi_pos (show 0 < M by omega)
        have hl : (hi M).length = (hi (M / 128)).length + 1 := by rw [e]; simp
        obtain ⟨M', h1, h2⟩ := hi_take n (M / 128) j (by omega) (by omega)
        refine ⟨M', by omega, ?_⟩
        rw [e, List.take_append_of_le_length (by omega), h2]
theorem num_prefix {n j : Nat} (h : n < 18446744073709551616) (hj : j < (form n).length) : num ((form n).take j) = .err 110 := by
  have e : (form n).take j = (hi (n / 128)).take j := by
    unfold form at hj ⊢
    rw [List.length_append, List.length_singleton] at hj
    rw [List.take_append_of_le_length (by omega)]
  obtain ⟨M', h1, h2⟩ := hi_take _ (n / 128) j (Nat.le_refl _) (by
    unfold form at hj
    rw [List.length_append, List.length_singleton] at hj
    omega)
  rw [e, h2]
  unfold num
  by_cases hz : M' = 0
  · rw [hz, hi_zero]; rfl
  · have := numGo_hi _ M' (Nat.le_refl _) (by omega) (by omega) []
    rw [List.append_nil] at this
    rw [this]
    rfl
theorem both_prefix {p : Nat × Nat} {j : Nat} (h1 : p.1 < 18446744073709551616) (h2 : p.2 < 18446744073709551616) (hj : j < (formP p).length) : both num ((formP p).take j) = .err 110 := by
  unfold formP at hj ⊢
  rw [List.length_append] at hj
  by_cases ha : j < (form p.1).length
  · rw [List.take_append_of_le_length (by omega)]
    exact both1 (num_prefix h1 ha)
  · rw [List.take_append]
    rw [List.take_of_length_le (by omega)]
    refine both2 (num_form h1 _) ?_
    rw [List.drop_left]
    exact num_prefix h2 (by omega)
theorem pairs_cut : ∀ (l acc : List (Nat × Nat)) (k j : Nat), Small l → j < (body l).length → pairs l.length ((body l).take j) acc k = .err 110
  | [], _, _, j, _, hj => by rw [body_nil] at hj; exact absurd hj (Nat.not_lt_zero _)
  | p :: l, acc, k, j, h, hj => by
    rw [body_cons] at hj ⊢
    rw [List.length_append] at hj
    rw [List.length_cons, pairs]
    by_cases ha : j < (formP p).length
    · rw [List.take_append_of_le_length (by omega), both_prefix (h p List.mem_cons_self).1 (h p List.mem_cons_self).2 ha]
    · rw [List.take_append, List.take_of_length_le (by omega), both_formP (h p List.mem_cons_self).1 (h p List.mem_cons_self).2]
      simp only
      rw [List.drop_left]
      exact pairs_cut l _ _ _ (fun q hq => h q (List.mem_cons_of_mem _ hq)) (by omega)
theorem takeP_cut {l : List (Nat × Nat)} (h : Small l) (hl : l.length ≤ 1048576) {j : Nat} (hj : j < (formPs l).length) : takeP (l.length : Int) ((formPs l).take j) = .err 110 := by
  unfold takeP formPs
  unfold formPs at hj
  rw [List.length_append] at hj
  rw [if_neg (by omega)]
  by_cases ha : j < (form l.length).length
  · rw [List.take_append_of_le_length (by omega), num_prefix (by omega) ha]
  · rw [List.take_append, List.take_of_length_le (by omega), num_form (by omega)]
    simp only
    rw [if_neg (by omega), List.drop_left]
    exact pairs_cut l _ _ _ h (by omega)
theorem formP_len {p : Nat × Nat} (h1 : p.1 < 18446744073709551616) (h2 : p.2 < 18446744073709551616) : (formP p).length ≤ 20 := by
  unfold formP
  rw [List.length_append]
  have := form_len h1
  have := form_len h2
  omega
theorem body_len : ∀ (l : List (Nat × Nat)), Small l → (body l).length ≤ 20 * l.length
  | [], _ => by simp [body_nil]
  | p :: l, h => by
    have h1 := formP_len (h p List.mem_cons_self).1 (h p List.mem_cons_self).2
    have h2 := body_len l (fun q hq => h q (List.mem_cons_of_mem _ hq))
    rw [body_cons, List.length_append, List.length_cons]
    omega
end Wire

def pcells (l : List (Nat × Nat)) : List Value := l.flatMap fun p => [uv p.1, uv p.2]
theorem pcells_len : ∀ l : List (Nat × Nat), (pcells l).length = l.length * 2
  | [] => rfl
  | p :: l => by
    show ([uv p.1, uv p.2] ++ pcells l).length = _
    rw [List.length_append, pcells_len l, List.length_cons, List.length_cons]
    simp
    omega
theorem pcells_append (a b : List (Nat × Nat)) : pcells (a ++ b) = pcells a ++ pcells b := by unfold pcells; rw [List.flatMap_append]
theorem pcells_one : ∀ (l : List (Nat × Nat)), ∀ u ∈ pcells l, u.oneCell' = true := by
  intro l u hu
  unfold pcells at hu
  rw [List.mem_flatMap] at hu
  obtain ⟨p, _, h⟩ := hu
  simp at h
  rcases h with rfl | rfl <;> rfl
theorem pcells_at : ∀ (l : List (Nat × Nat)) (j : Nat) (hj : j < l.length), (pcells l)[j * 2]? = some (uv l[j].1) ∧ (pcells l)[j * 2 + 1]? = some (uv l[j].2)
  | p :: l, 0, _ => ⟨rfl, rfl⟩
  | p :: l, j + 1, hj => by
    have := pcells_at l j (by simpa using hj)
    have e : ∀ k, (pcells (p :: l))[k + 2]? = (pcells l)[k]? := fun k => by
      show ([uv p.1, uv p.2] ++ pcells l)[k + 2]? = _
      rw [List.getElem?_append_right (by simp)]
      simp
    rw [show (j + 1) * 2 = j * 2 + 2 by omega, show j * 2 + 2 + 1 = j * 2 + 1 + 2 by omega, e, e]
    simpa using this
end Go.Proofs.Ytgmienlifnpniaa
