/- tracerylaw01.form, wire.Put of pairs (printed by gen_lists.py). -/
import Derived.Test.YtgmienlifnpniaaPairRd
import Derived.Test.YtgmienlifnpniaaEqArr
import Derived.Test.YtgmienlifnpniaaHeld
import Derived.Test.YtgmienlifnpniaaRefNum
namespace Go.Proofs.Ytgmienlifnpniaa
open Go.RowKit
set_option linter.unusedSimpArgs false

theorem run_neq_two (a b c d : Int) (w : World) : (binOp .neq 57 (.agg #[.int .u64 a, .int .u64 b]) (.agg #[.int .u64 c, .int .u64 d])).run Try.prog w = .ok (.bool (!(a == c && b == d))) w := by
  have h := run_eql_two a b c d w
  rw [run_eql_struct] at h
  rw [run_neq_struct]
  generalize (Op.equalIn 10000 57 (.agg #[.int .u64 a, .int .u64 b]) (.agg #[.int .u64 c, .int .u64 d])).run Try.prog w = r at *
  cases r with
  | ok x w1 =>
    simp only [Result.andThen_ok] at h ⊢
    injection h with h1 h2
    injection h1 with h1
    subst h1 h2
    rfl
  | halt x w1 => simp [Result.andThen] at h

theorem aa1 (w : World) (o : Obj) : Below w.heap.size w (w.alloc o) := (Below.refl _ _).alloc (Nat.le_refl _) o

set_option maxRecDepth 100000 in
set_option maxHeartbeats 2000000 in
theorem form_any (x y : Nat) (w : World) (hx : x < 18446744073709551616) (hy : y < 18446744073709551616) :
    Calls Try.prog 32 #[.agg #[.int .u64 (x : Int), .int .u64 (y : Int)]] w fun e w' => ∃ A n' c, e = .returned (.slice A n' c) ∧ OwnB w' w.heap.size (.slice A n' c) (Wire.formP (x, y)) ∧ Below w.heap.size w w' := by
  have R1 := Lib.hid fun w => by have h := num_any (x : Int) w (by omega) (by omega); rw [Int.toNat_natCast] at h; exact h
  have R2 := Lib.hid fun w => by have h := num_any (y : Int) w (by omega) (by omega); rw [Int.toNat_natCast] at h; exact h
  have l1 := Wire.form_len hx
  have l2 := Wire.form_len hy
  unfold Wire.formP
  clear hx hy
  simp only
  generalize Wire.form x = FA at *
  generalize Wire.form y = FB at *
  go_enter Try.func32, Try.ntmps32
  go_wp2_with fail
  obtain ⟨w0, hw0⟩ : ∃ w0, w0 = w.alloc (.cells #[.int .u64 (x : Int), .int .u64 (y : Int)] 57) := ⟨_, rfl⟩
  have hB := Blk.new w 57 #[.int .u64 (x : Int), .int .u64 (y : Int)]
  have hb0 := aa1 w (.cells #[.int .u64 (x : Int), .int .u64 (y : Int)] 57)
  rw [← hw0] at hB hb0
  rw [← hw0]
  clear hw0
  have hlt := hB.lt
  have q0 := fun w' (h : Below w0.heap.size w0 w') => (hB.below h hlt).cell 0
  have q1 := fun w' (h : Below w0.heap.size w0 w') => (hB.below h hlt).cell 1
  clear hB
  refine wp_region_noPanic ?_
  refine wp_region_held_drew (S := fun w' => Below w0.heap.size w0 w') (by kernel_rfl) (Below.refl _ _).drew (fun hHeld => ?_)
  refine wpAnyH_take (i := 0) (oi := Oper.mk (some 3) _ _ _ _ _) (v := ?_) rfl (by kernel_rfl) (by kernel_rfl) (by kernel_rfl) (fun _ _ _ h => h) (Or.inl ⟨by rfl, ?_⟩) (by assumption) ?_
  rotate_left
  · (intro w' hSw; (try dsimp only at hSw); go_simp; try with_reducible rfl)
  try simp only [Act.put, List.setIfInBounds_toArray, List.set_cons_zero, List.set_cons_succ]
  refine wpAnyH_take (i := 1) (oi := Oper.mk (some 4) _ _ _ _ _) (v := ?_) rfl (by kernel_rfl) (by kernel_rfl) (by kernel_rfl) (fun _ _ _ h => h) (Or.inl ⟨by rfl, ?_⟩) (by assumption) ?_
  rotate_left
  · (intro w' hSw; (try dsimp only at hSw); go_simp; try with_reducible rfl)
  try simp only [Act.put, List.setIfInBounds_toArray, List.set_cons_zero, List.set_cons_succ]
  refine wpAnyH_take (i := 3) (oi := Oper.mk (some 6) _ _ _ _ _) (v := ?_) rfl (by kernel_rfl) (by kernel_rfl) (by kernel_rfl) (fun _ _ _ h => h) (Or.inl ⟨by rfl, ?_⟩) (by assumption) ?_
  rotate_left
  · (intro w' hSw; (try dsimp only at hSw); go_simp; try with_reducible rfl)
  try simp only [Act.put, List.setIfInBounds_toArray, List.set_cons_zero, List.set_cons_succ]
  refine wpAnyH_take (i := 4) (oi := Oper.mk (some 7) _ _ _ _ _) (v := ?_) rfl (by kernel_rfl) (by kernel_rfl) (by kernel_rfl) (fun _ _ _ h => h) (Or.inl ⟨by rfl, ?_⟩) (by assumption) ?_
  rotate_left
  · (intro w' hSw; (try dsimp only at hSw); go_simp; try with_reducible rfl)
  try simp only [Act.put, List.setIfInBounds_toArray, List.set_cons_zero, List.set_cons_succ]
  refine wpAnyH_ready (rs := [2]) (by kernel_rfl) (by simp) ?_
  refine AllReadyH.cons (o := Oper.mk (some 5) _ _ _ _ _) rfl (fun K hK => ?_) AllReadyH.nil
  go_simp
  refine (R1.out _).mono ?_
  rintro e w1 ⟨A1, m1, d1, rfl, ho1, hb1⟩
  try simp only []
  replace hb1 := undrew hb1
  have b1 := hb1
  obtain rfl := ho1.len
  refine hK.out _ _ b1 (fun _ => ?_)
  clear hK K hHeld
  have hHeld := b1
  try simp only [Act.put, List.setIfInBounds_toArray, List.set_cons_zero, List.set_cons_succ]
  refine wpAnyH_ready (rs := [5]) (by kernel_rfl) (by simp) ?_
  refine AllReadyH.cons (o := Oper.mk (some 8) _ _ _ _ _) rfl (fun K hK => ?_) AllReadyH.nil
  go_simp
  refine (R2.out _).mono ?_
  rintro e w2 ⟨A2, m2, d2, rfl, ho2, hb2⟩
  try simp only []
  have c1 := ho1.kept hb2
  have b2 := b1.up hb2 b1.size
  obtain rfl := ho2.len
  refine hK.out _ _ b2 (fun _ => ?_)
  clear hK K hHeld
  have hHeld := b2
  try simp only [Act.put, List.setIfInBounds_toArray, List.set_cons_zero, List.set_cons_succ]
  refine wpAnyH_ready (rs := [6]) (by kernel_rfl) (by simp) ?_
  refine AllReadyH.cons (o := Oper.mk (some 9) _ _ _ _ _) rfl (fun K hK => ?_) AllReadyH.nil
  refine stepB_append (by rfl) (.tmp 5) (.tmp 8) (by rfl) w0.heap.size _ FA c1 (by rfl) _ _ FB ho2.reads _ _ rfl (by rfl) (by (try simp only [List.length_append]); omega) b2.size ?_
  intro A3 m3 d3 w3 ho3 hg3 hnx3
  clear hnx3
  have b3 := b2.own b2.size c1 hg3
  refine hK.out _ _ b3 (fun _ => ?_)
  clear hK K hHeld
  have hHeld := b3
  try simp only [Act.put, List.setIfInBounds_toArray, List.set_cons_zero, List.set_cons_succ]
  refine wpAnyH_take (i := 7) (oi := Oper.mk (some 2) _ _ _ _ _) (v := ?_) rfl (by kernel_rfl) (by kernel_rfl) (by kernel_rfl) (fun _ _ _ h => h) (Or.inl ⟨by rfl, ?_⟩) (by assumption) ?_
  rotate_left
  · (intro w' hSw; (try dsimp only at hSw); go_simp; try with_reducible rfl)
  try simp only [Act.put, List.setIfInBounds_toArray, List.set_cons_zero, List.set_cons_succ]
  refine wpAnyH_done (by kernel_rfl) ?_ _
  refine NoPanic.normal ?_
  go_wp2
  go_ret
  exact ⟨_, _, _, rfl, ho3.mono (by omega), hb0.up b3 (by omega)⟩

set_option maxRecDepth 100000 in
set_option maxHeartbeats 2000000 in
theorem putP_any (A : Option Addr) (c : Nat) (l : List (Nat × Nat)) (w : World) (hr : ReadsP w w.heap.size A l) (hA : 0 < l.length → ∃ ab ao, A = some ⟨ab, ao, none⟩) (hsm : Wire.Small l) (hl : l.length ≤ 1048576) :
    Calls Try.prog 31 #[.slice A l.length c, .func (.func 32) #[] #[]] w fun e w' => ∃ A n' c, e = .returned (.tuple #[.slice A n' c, .int .i64 0]) ∧ OwnB w' w.heap.size (.slice A n' c) (Wire.formPs l) ∧ Below w.heap.size w w' := by
  have hf : ∀ w : World, (binOp .eql 59 (.func (.func 32) #[] #[]) .nilFunc).run Try.prog w = .ok (.bool false) w := fun _ => by kernel_rfl
  have R1 := Lib.hid fun w => by have h := num_any (l.length : Int) w (by omega) (by omega); rw [Int.toNat_natCast] at h; exact h
  have HR := Lib.hid hr
  have HA := Lib.hid hA
  have HS := Lib.hid hsm
  have l1 := Wire.form_len (n := l.length) (by omega)
  clear hr hA hsm
  go_enter Try.func31, Try.ntmps31
  go_wp2_with fail
  refine (R1.out _).mono ?_
  rintro e w1 ⟨A1, m1, d1, rfl, ho1, hb1⟩
  go_wp2_with fail
  go_loopg [6, 17] l.length (fun k sl i wr => ∃ (j : Nat) (A' : Option Addr) (n' c' : Nat), i = .int .i64 (j : Int) ∧ sl = .slice A' n' c' ∧ j + k = l.length ∧ OwnB wr w.heap.size (.slice A' n' c') (Wire.form l.length ++ Wire.body (l.take j)) ∧ Below w.heap.size w wr)
  case atStart => exact ⟨0, A1, m1, d1, rfl, rfl, by omega, by rw [List.take_zero, Wire.body_nil, List.append_nil]; exact ho1, hb1⟩
  case round =>
    obtain ⟨j, A', n', c', rfl, rfl, hj, ho, hbl⟩ := hrel
    have Hj := Lib.hid hj
    by_cases hlt : j < l.length
    · obtain ⟨ab, ao, rfl⟩ := HA.out (by omega)
      obtain ⟨ad, e, had, hc⟩ := (show ReadsP wr w.heap.size (some ⟨ab, ao, none⟩) l from Reads.below HR.out hbl).at_ (by omega)
      obtain rfl := Option.some.inj e
      obtain ⟨q0, q1⟩ := hc j hlt
      rw [Addr.add_lit] at q0 q1
      rw [← Nat.add_assoc] at q1
      have hs := HS.out l[j] (List.getElem_mem hlt)
      have htk := Lib.hid (show Wire.form l.length ++ Wire.body (l.take (j + 1)) = Wire.form l.length ++ Wire.body (l.take j) ++ Wire.formP l[j] by
        rw [List.take_succ_eq_append_getElem hlt, Wire.body_snoc, List.append_assoc])
      have hbd : (Wire.form l.length ++ Wire.body (l.take j)).length ≤ 20971530 := by
        have := Wire.body_len (l.take j) (fun p hp => HS.out p (List.mem_of_mem_take hp))
        rw [List.length_append]
        rw [List.length_take] at this
        omega
      obtain ⟨⟨px, py⟩, hp⟩ : ∃ p, p = l[j] := ⟨_, rfl⟩
      rw [← hp] at q0 q1 hs htk
      have hfp := Wire.formP_len (p := (px, py)) hs.1 hs.2
      have R32 := Lib.hid fun w => form_any px py w hs.1 hs.2
      unfold uv at q0 q1
      simp only at q0 q1
      have hz := hbl.size
      have i0 : (0 : Int) ≤ (j : Int) := by omega
      have i1 : (j : Int) < (l.length : Int) := by omega
      clear hc hj hs hp
      generalize Wire.form l.length ++ Wire.body (l.take j) = WA at *
      generalize Wire.formP (px, py) = FP at *
      go_wp2_with fail
      refine (R32.out _).mono ?_
      rintro e w2 ⟨A2, m2, d2, rfl, ho2, hb2⟩
      obtain rfl := ho2.len
      have c2 := (ho.alloc (.cells #[.int .u64 (px : Int), .int .u64 (py : Int)] 57)).kept hb2
      have b2 := (hbl.alloc hz (.cells #[.int .u64 (px : Int), .int .u64 (py : Int)] 57)).up hb2 (by rw [World.size_alloc]; omega)
      go_wp2_with (at_builtin; refine wpB_append (by rfl) (.tmp 21) (.tmp 24) (by rfl) w.heap.size _ WA c2 (by rfl) _ _ FP ho2.reads _ _ rfl (by rfl) (by omega) b2.size ?_; intro A3 n3 c3 w3 ho3 hg3 hnx3; clear hnx3)
      go_roundg (l.length - (j + 1))
      case measure => have := Hj.out; omega
      case rel =>
        exact ⟨j + 1, A3, n3, c3, by go_num, rfl, by omega, by rw [htk.out]; exact ho3, b2.own b2.size c2 hg3⟩
    · have hjl : j = l.length := by omega
      subst hjl
      clear hj
      rw [List.take_length] at ho
      go_wp2_with fail
      go_ret2
      exact ⟨_, _, _, rfl, ho, hbl⟩
end Go.Proofs.Ytgmienlifnpniaa
