/- Two arrays of two numbers, held against each other. -/
import Derived.Test.YtgmienlifnpniaaBytes
import Derived.Laws.StructEq
namespace Go.Proofs.Ytgmienlifnpniaa
open Go.RowKit

theorem info22 : ∃ i, Try.prog.info? 22 = some i ∧ i.size = 1 := by
  obtain ⟨i0, hi, _, hz1, _⟩ := info_parts (show (Try.prog.info? 22).map (fun i => (i.zero, i.size, i.bytes)) = some (some (.int .u64 0), 1, 8) by kernel_rfl)
  exact ⟨i0, hi, hz1⟩
theorem run_part22 (w : World) (cs : Array Value) (i : Nat) (v : Value) (h : cs[i]? = some v) : (part 22 cs i).run Try.prog w = .ok v w := by
  have ha : (isAgg 22).run Try.prog w = .ok false w := by
    unfold isAgg
    rw [Sem.run_bind, run_underlying Try.underlying22]
    rfl
  simp [part, Sem.run_bind, ha, h]
theorem run_eql_two (a b c d : Int) (w : World) : (binOp .eql 57 (.agg #[.int .u64 a, .int .u64 b]) (.agg #[.int .u64 c, .int .u64 d])).run Try.prog w = .ok (.bool (a == c && b == d)) w := by
  obtain ⟨i, hi, hz⟩ := info22
  rw [run_eql_struct]
  have e : (Op.equalIn 10000 57 (.agg #[.int .u64 a, .int .u64 b]) (.agg #[.int .u64 c, .int .u64 d])).run Try.prog w = .ok (a == c && b == d) w := by
    show (Op.equalIn (9998 + 1 + 1) 57 _ _).run _ _ = _
    rw [Op.equalIn]
    have p0 := run_part22 w #[.int .u64 a, .int .u64 b] 0 _ rfl
    have p1 := run_part22 w #[.int .u64 a, .int .u64 b] 1 _ rfl
    have q0 := run_part22 w #[.int .u64 c, .int .u64 d] 0 _ rfl
    have q1 := run_part22 w #[.int .u64 c, .int .u64 d] 1 _ rfl
    have hs : (sizeOf 22).run Try.prog w = .ok 1 w := by simp [sizeOf, typeInfo, hi, hz]
    have e1 := fun x y => run_equalIn_int (P := Try.prog) w 9998 22 .u64 .u64 x y Try.underlying22
    simp only [Sem.run_bind, run_underlying Try.underlying57, Result.andThen_ok, hs]
    simp [List.range', p0, p1, q0, q1, e1]
    by_cases h : a = c <;> simp [h]
    by_cases h2 : b = d <;> simp [h2]
  rw [e]
  rfl
end Go.Proofs.Ytgmienlifnpniaa
