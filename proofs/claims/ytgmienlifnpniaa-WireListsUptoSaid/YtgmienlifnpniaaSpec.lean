/- What a reader reads, as plain functions on the bytes that are left. -/
import Derived.Test.YtgmienlifnpniaaForm
namespace Go.Proofs.Ytgmienlifnpniaa
namespace Wire

/-- an error's number, or a thing and how many bytes it took -/
inductive Res (α : Type) where
  | err (c : Nat)
  | ok (a : α) (k : Nat)

/-- a number: digit by digit -/
def numGo : List UInt8 → Bool → Nat → Nat → Res Nat
  | [], _, _, _ => .err 110
  | c :: r, first, n, k =>
    if first && c == 128 || n / 144115188075855872 != 0 then .err 111
    else if c < 128 then .ok (n * 128 + c.toNat % 128) (k + 1)
    else numGo r false (n * 128 + c.toNat % 128) (k + 1)

def num (r : List UInt8) : Res Nat := numGo r true 0 0

theorem numGo_bd : ∀ (r : List UInt8) (f : Bool) (n k : Nat) (a m : Nat), numGo r f n k = .ok a m → a < 18446744073709551616 ∧ k < m ∧ m ≤ k + r.length
  | [], _, _, _, _, _, h => by simp [numGo] at h
  | c :: r, f, n, k, a, m, h => by
    unfold numGo at h
    split at h
    · cases h
    · rename_i h1
      have hn : n / 144115188075855872 = 0 := by
        simp only [Bool.or_eq_true, not_or] at h1
        have := h1.2
        simpa using this
      split at h
      · injection h with e1 e2
        subst e1 e2
        simp only [List.length_cons]
        omega
      · have := numGo_bd r false _ _ _ _ h
        simp only [List.length_cons]
        omega

theorem num_bd {r : List UInt8} {a m : Nat} (h : num r = .ok a m) : a < 18446744073709551616 ∧ 1 ≤ m ∧ m ≤ r.length := by
  have := numGo_bd r true 0 0 a m h
  omega

theorem numGo_err : ∀ (r : List UInt8) (f : Bool) (n k c : Nat), numGo r f n k = .err c → c = 110 ∨ c = 111
  | [], _, _, _, _, h => by simp [numGo] at h; exact .inl h.symm
  | _ :: r, f, n, k, c, h => by
    unfold numGo at h
    split at h
    · injection h with h; exact .inr h.symm
    · split at h
      · cases h
      · exact numGo_err r false _ _ _ h

end Wire
end Go.Proofs.Ytgmienlifnpniaa
