/- Plain words on the form of numbers to the base 128: no Go in sight. -/
import Derived.Laws.BitsAllLaws
namespace Go.Proofs.Ytgmienlifnpniaa
namespace Wire

/-- the digits ahead of the last one, each with 128 added -/
def hi (n : Nat) : List UInt8 := if _h : n = 0 then [] else hi (n / 128) ++ [UInt8.ofNat (n % 128 + 128)]
termination_by n
decreasing_by omega

def form (n : Nat) : List UInt8 := hi (n / 128) ++ [UInt8.ofNat (n % 128)]

theorem hi_zero : hi 0 = [] := by rw [hi]; simp
theorem hi_pos {n : Nat} (h : 0 < n) : hi n = hi (n / 128) ++ [UInt8.ofNat (n % 128 + 128)] := by
  rw [hi, dif_neg (by omega)]

theorem hi_len : ∀ (k n : Nat), n < 128 ^ k → (hi n).length ≤ k
  | 0, n, h => by
    have : n = 0 := by simpa using h
    subst this; simp [hi_zero]
  | k + 1, n, h => by
    by_cases h0 : n = 0
    · subst h0; simp [hi_zero]
    · rw [hi_pos (by omega), List.length_append]
      have := hi_len k (n / 128) (by rw [Nat.pow_succ] at h; omega)
      simp; omega

theorem form_len {n : Nat} (h : n < 18446744073709551616) : (form n).length ≤ 10 := by
  unfold form
  have := hi_len 9 (n / 128) (by omega)
  simp; omega
theorem form_pos (n : Nat) : 0 < (form n).length := by unfold form; simp

theorem byte_hi (M : Nat) : (UInt8.ofNat (M % 128 + 128)).toNat = M % 128 + 128 := by
  rw [UInt8.toNat_ofNat']; omega
theorem byte_lo (M : Nat) : (UInt8.ofNat (M % 128)).toNat = M % 128 := by
  rw [UInt8.toNat_ofNat']; omega

theorem step_hi {M N : Nat} {D : List UInt8} (h : 0 < M) (e : hi M ++ D = form N) : hi (M / 128) ++ (UInt8.ofNat (M % 128 + 128) :: D) = form N := by
  rw [← e, hi_pos h]; simp

theorem form_small {n : Nat} (h : n < 128) : form n = [UInt8.ofNat n] := by
  unfold form
  rw [Nat.div_eq_of_lt h, hi_zero, Nat.mod_eq_of_lt h]
  rfl
theorem form_128 : form 128 = [129, 0] := by
  unfold form
  rw [hi_pos (by decide), show 128 / 128 / 128 = 0 from rfl, hi_zero]
  rfl

end Wire
end Go.Proofs.Ytgmienlifnpniaa
