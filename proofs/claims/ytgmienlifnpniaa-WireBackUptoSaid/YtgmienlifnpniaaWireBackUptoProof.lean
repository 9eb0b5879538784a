/- WireBack: what was written, one behind the other, is read as it was; a byte less ends within it; what any bytes are read as is written as they were. Condition: what comes in is of bulk at most 1048576 (the given second form). -/
import Derived.Test.YtgmienlifnpniaaBack
import Derived.Test.YtgmienlifnpniaaOpened
namespace Go.Proofs.Ytgmienlifnpniaa.wireBack
open Go.ChangeShapes Go.WideShapes Go.ChangeAt Go.RowKit Opened

set_option maxRecDepth 100000 in
theorem contract (H : Type) (enc : TypeId × Value → H) (W : World) (base : Nat) (args : Array Value) (ds gs : List (DataW H)) (before : List MemPlace)
    (hval : ∀ (j : Nat) t v, Try.f6.params[j]? = some t → args[j]? = some v → Value.okWide Try.prog W .any base t v)
    (hW : DataW.Whole enc Try.prog Try.f6.params.toList Rows.wireBackSpec.vars false W args.toList ds gs before) (hk : Rows.uptoSmall H (ds ++ gs) = true) :
    Calls Try.prog 6 args W fun e W' => ∃ v, e = .returned v ∧ Rows.wireBackSpec.post enc Try.prog Try.f6 false true false false W args v W' := by
  have hW' := hW
  obtain ⟨p, q, hA0, hV, rfl, hfz, hnd⟩ := hW
  have hA : DataW.TrodAll enc Try.prog W 0 (fun _ => true) true Try.f6.params.toList args.toList ds p := hA0
  rw [Try.params6] at hA hval
  obtain ⟨v0, vs0, d0, ds0, p0, q0, hargs, rfl, rfl, h0, r0⟩ := trodAll_cons hA
  obtain ⟨v1, vs1, d1, ds1, p1, q1, rfl, rfl, rfl, h1, r1⟩ := trodAll_cons r0
  obtain ⟨rfl, rfl, rfl⟩ := trodAll_nil r1
  obtain rfl : args = #[v0, v1] := by cases args; simp_all
  obtain ⟨rfl, rfl⟩ := trodVars_none hV
  obtain ⟨cs, rfl, hsz⟩ := okWide_struct Try.underlying34 (hval 0 34 v0 rfl rfl)
  obtain ⟨Ab, cb, lb, rfl, hrb, hb1, hb2, hb3⟩ := open_bytesR (hval 1 23 v1 rfl rfl) h1
  obtain ⟨fuel, hf⟩ := h0
  obtain ⟨N, S, X, Y, T, n1, s1, n2, s2, n3, s3, n4, s4, hcs, hd, w0, w1, w2, w3⟩ := open_things hf
  have ecs : cs = #[.int .u64 N, .int .i64 S, .int .u64 X, .int .u64 Y, .string T, .bool n1, .string s1, .bool n2, .string s2, .bool n3, .string s3, .bool n4, .string s4] := by
    have : cs.toList = _ := hcs
    rw [← Array.toArray_toList (xs := cs), this]
  subst ecs
  simp only at hd
  subst hd
  have hk2 := of_decide_eq_true hk
  have hlen : ∀ s : ByteArray, s.data.toList.length = s.size := fun s => Array.length_toList
  simp only [List.append_nil, Rows.uptoBulkAll, Rows.uptoBulk, hlen] at hk2
  have b0 := bounds_u64 w0
  have b1 := bounds_i64 w1
  have b2 := bounds_u64 w2
  have b3 := bounds_u64 w3
  obtain ⟨N, rfl⟩ := Int.eq_ofNat_of_zero_le b0.1
  obtain ⟨X, rfl⟩ := Int.eq_ofNat_of_zero_le b2.1
  obtain ⟨Y, rfl⟩ := Int.eq_ofNat_of_zero_le b3.1
  have done : Calls Try.prog 6 #[.agg #[.int .u64 (N : Int), .int .i64 S, .int .u64 (X : Int), .int .u64 (Y : Int), .string T, .bool n1, .string s1, .bool n2, .string s2, .bool n3, .string s3, .bool n4, .string s4], .slice Ab lb.length cb] W fun e w' => e = .returned (.bool true) ∧ Below W.heap.size W w' := by
    cases hp : Wire.gaussP (((n1, s1), (n2, s2)), ((n3, s3), (n4, s4)))
    · exact back_no N S X Y T n1 s1 n2 s2 n3 s3 n4 s4 Ab cb lb W (by omega) (by omega) (by omega) (by omega) (by omega) (by omega) (by omega) (by omega) (by omega) (by omega) hrb (by omega) hb1 hb2 hp
    · exact back_yes N S X Y T n1 s1 n2 s2 n3 s3 n4 s4 Ab cb lb W (by omega) (by omega) (by omega) (by omega) (by omega) (by omega) hrb (by omega) hb1 hb2 hp
  refine done.mono fun e W' ⟨he, hb⟩ => ?_
  subst he
  exact ⟨_, rfl, law_post hW' hb rfl rfl Try.underlying4 (by rw [Try.params6]; simp; constructor <;> kernel_rfl) rfl rfl rfl⟩

set_option maxRecDepth 100000 in
theorem lifted (os : Os) (started : os.Started) (H : Type) (enc : TypeId × Value → H) (F : Stop.Interp) :
    ReturnsInHanded {} Try.checked os 6 .any ((Rows.OpenSpec.upto Rows.wireBackSpec).pre6 enc Try.prog Try.f6 Rows.wireBackUptoRow.domain false) (((Rows.OpenSpec.upto Rows.wireBackSpec).at F).post enc Try.prog Try.f6 false true false false) := by
  refine returnsInHanded_of_cond (C := Try.checked) (s := Rows.OpenSpec.upto Rows.wireBackSpec) (k := Rows.uptoSmall) rfl own started (by kernel_rfl) Try.func6
    (OpenSpec.witness (enc := enc) (C := Try.checked) (s := Rows.OpenSpec.upto Rows.wireBackSpec) (k := Rows.uptoSmall) rfl false
      ⟨#[], #[.agg #[.int .u64 0, .int .i64 0, .int .u64 0, .int .u64 0, .string ⟨#[]⟩, .bool false, .string ⟨#[]⟩, .bool false, .string ⟨#[]⟩, .bool false, .string ⟨#[]⟩, .bool false, .string ⟨#[]⟩], .slice none 0 0], []⟩ 8 (by kernel_rfl) (by kernel_rfl) (by kernel_rfl)
      (x := ([.agg [.lit (.int .u64 0), .lit (.int .i64 0), .lit (.int .u64 0), .lit (.int .u64 0), .lit (.string []), .agg [.agg [.agg [.lit (.bool false), .lit (.string [])], .agg [.lit (.bool false), .lit (.string [])]], .agg [.agg [.lit (.bool false), .lit (.string [])], .agg [.lit (.bool false), .lit (.string [])]]]], .nil], [], [])) (by kernel_rfl) rfl (by kernel_rfl)) ?_
  intro W base args ds gs before hval hW _ hk _
  exact contract H enc W base args ds gs before hval hW hk

theorem over : Rows.wireBackUptoRow.holds Try.pinned (Rows.OpenSpec.upto Rows.wireBackSpec) :=
  OpenClaim.holds_of_cond 6 Try.f6 rfl rfl rfl rfl rfl rfl rfl ⟨rfl, rfl, rfl, rfl, rfl⟩ rfl rfl rfl rfl rfl (by kernel_rfl) Try.func6 (by kernel_rfl)
    (of_decide_eq_true (by kernel_rfl)) (by unfold Func.isWrapper; first | (rw [if_pos (by decide +kernel)]; kernel_rfl) | (rw [if_neg (by decide +kernel)]; exact ⟨rfl, rfl⟩))
    (fun os started H enc _ F => lifted os started H enc F)

theorem proved : Rows.WireBackUptoSaid :=
  over
#print axioms proved
end Go.Proofs.Ytgmienlifnpniaa.wireBack
