import Derived.Test.YtpnginnjbdedbaaC4
import Derived.Test.YtpnginnjbdedbaaC2
import Derived.Lib.ConvBytes
import Derived.BigQuiet
/- whole.Check. -/
namespace Go.Proofs.Ytpnginnjbdedbaa
open Go.RowKit
open Wh
set_option linter.unusedSimpArgs false

/-- a number that may be -/
def MayL (neg : Bool) (l : List UInt8) : Prop := l.length ≤ 16384 ∧ (l = [] → neg = false) ∧ Formed l
theorem toL (s : ByteArray) : s.toList = s.data.toList := ByteArray.toList_eq s
def Told (w : World) (v : Value) (e : Ending) (w' : World) : Prop := e = .returned v ∧ Below w.heap.size w w'
theorem str_facts {s : ByteArray} (h : 0 < s.size) : s.toList.isEmpty = false ∧ ¬ s.toList = [] := by
  have hl : s.data.toList.length = s.size := Array.length_toList
  rw [toL]
  constructor
  · rw [List.isEmpty_eq_false_iff]; intro h0; rw [h0] at hl; simp at hl; omega
  · intro h0; rw [h0] at hl; simp at hl; omega
theorem str_empty {s : ByteArray} (h : s.data.toList = []) : s = ⟨#[]⟩ := by
  have h1 : s.data = #[] := by simpa using h
  cases s; simp_all
theorem str_head {s : ByteArray} (h : 0 < s.size) : s.data.toList.head? = some s[0] := by
  have hl : s.data.toList.length = s.size := Array.length_toList
  rw [List.head?_eq_getElem?, List.getElem?_eq_getElem (by omega)]
  rfl
set_option maxRecDepth 100000 in
set_option maxHeartbeats 1000000 in
theorem check_ok {w : World} {neg : Bool} {s : ByteArray} (h : MayL neg s.data.toList) :
    Calls Try.prog 43 #[.agg #[.bool neg, .string s]] w (Told w (.int .i64 0)) := by
  obtain ⟨h1, h2, h3⟩ := h
  have hl : s.data.toList.length = s.size := Array.length_toList
  rcases Nat.eq_zero_or_pos s.size with h0 | h0
  · have he : s.data.toList = [] := List.eq_nil_of_length_eq_zero (by omega)
    obtain rfl := str_empty he
    obtain rfl := h2 he
    clear h1 h2 h3 hl h0 he
    go_enter Try.func43, Try.ntmps43
    go_wp2
    go_ret
    exact ⟨rfl, (Below.refl _ _).alloc (Nat.le_refl _) _⟩
  · obtain ⟨e1, e2⟩ := str_facts h0
    have hi0 : (0 : Int) < (s.size : Int) := by omega
    have hi1 : (s.size : Int) ≤ 16384 := by omega
    have hne : ¬ s[0].toNat = 0 := fun hh => h3 s[0] (str_head h0) (by rw [← UInt8.toNat_inj]; exact hh)
    have hb0 : ((s[0].toNat : Int) == 0) = false := by simp; omega
    have hd : decide ((16384 : Int) < (s.size : Int)) = false := by simp; omega
    clear h1 h2 h3 hl
    go_enter Try.func43, Try.ntmps43
    go_wp2
    go_ret
    exact ⟨rfl, (Below.refl _ _).alloc (Nat.le_refl _) _⟩
set_option maxRecDepth 100000 in
set_option maxHeartbeats 1000000 in
theorem check_no {w : World} {neg : Bool} {s : ByteArray} (h : ¬ MayL neg s.data.toList) :
    Calls Try.prog 43 #[.agg #[.bool neg, .string s]] w (Told w (.int .i64 2)) := by
  have hl : s.data.toList.length = s.size := Array.length_toList
  rcases Nat.eq_zero_or_pos s.size with h0 | h0
  · have he : s.data.toList = [] := List.eq_nil_of_length_eq_zero (by omega)
    have hn : neg = true := by
      cases neg with
      | true => rfl
      | false => exact absurd ⟨by omega, fun _ => rfl, by rw [he]; intro x hx; cases hx⟩ h
    obtain rfl := str_empty he
    subst hn
    clear h hl h0 he
    go_enter Try.func43, Try.ntmps43
    go_wp2
    go_ret
    exact ⟨rfl, (Below.refl _ _).alloc (Nat.le_refl _) _⟩
  · obtain ⟨e1, e2⟩ := str_facts h0
    have hi0 : (0 : Int) < (s.size : Int) := by omega
    by_cases hz : s[0].toNat = 0
    · have hb0 : ((s[0].toNat : Int) == 0) = true := by simp; omega
      clear h hl
      go_enter Try.func43, Try.ntmps43
      go_wp2
      go_ret
      exact ⟨rfl, (Below.refl _ _).alloc (Nat.le_refl _) _⟩
    · have hb0 : ((s[0].toNat : Int) == 0) = false := by simp; omega
      have hbig : 16384 < s.size := by
        rcases Nat.lt_or_ge 16384 s.size with h5 | h5
        · exact h5
        · refine absurd ⟨by omega, fun h6 => ?_, fun x hx => ?_⟩ h
          · rw [h6] at hl; simp at hl; omega
          · rw [str_head h0] at hx
            injection hx with hx
            rw [← hx]
            intro h7
            rw [h7] at hz
            exact hz rfl
      have hd : decide ((16384 : Int) < (s.size : Int)) = true := by simp; omega
      have hi1 : (16384 : Int) < (s.size : Int) := by omega
      clear h hl
      go_enter Try.func43, Try.ntmps43
      go_wp2
      go_ret
      exact ⟨rfl, (Below.refl _ _).alloc (Nat.le_refl _) _⟩
end Go.Proofs.Ytpnginnjbdedbaa

/- The reference's words: a magnitude's digits (printed by gen_rwords.py). -/
namespace Go.Proofs.Ytpnginnjbdedbaa
open Go.RowKit
open Wh
set_option linter.unusedSimpArgs false

theorem words_len {l : List UInt8} (hf : Formed l) : (wds (bval l)).length = (l.length + 3) / 4 := by
  have h1 := bval_lt l
  have p4 : (4294967296 : Nat) = 256 ^ 4 := by decide
  refine Nat.le_antisymm (len_wds ?_) ?_
  · rw [p4, ← Nat.pow_mul]
    exact Nat.lt_of_lt_of_le h1 (Nat.pow_le_pow_right (by decide) (by omega))
  · cases l with
    | nil => simp
    | cons b r =>
      rcases Nat.lt_or_ge (wds (bval (b :: r))).length (((b :: r).length + 3) / 4) with h | h
      · exfalso
        have h2 := lt_of_len (n := bval (b :: r)) (k := ((b :: r).length + 3) / 4 - 1) (by omega)
        rw [p4, ← Nat.pow_mul] at h2
        have h3 : (256 : Nat) ^ (4 * (((b :: r).length + 3) / 4 - 1)) ≤ 256 ^ r.length := Nat.pow_le_pow_right (by decide) (by rw [List.length_cons] at *; omega)
        have hb := hf b rfl
        have hb' : 0 < b.toNat := by
          rcases Nat.eq_zero_or_pos b.toNat with h0 | h0
          · exact absurd (by rw [← UInt8.toNat_inj]; exact h0) hb
          · exact h0
        have h4 : 256 ^ r.length ≤ bval (b :: r) := by
          rw [bval_cons]
          exact Nat.le_trans (Nat.le_mul_of_pos_left _ hb') (Nat.le_add_right _ _)
        omega
      · exact h
theorem add_byte {x b s : Nat} (hs : s < 4) (hx : x < 256 ^ s) (hb : b < 256) : IntKind.u32.wrap ((x : Int) + IntKind.u32.wrap ((b : Int) * 2 ^ (8 * s))) = ((x + b * 256 ^ s : Nat) : Int) ∧ x + b * 256 ^ s < 4294967296 := by
  have h1 : (256 : Nat) ^ s ≤ 256 ^ 3 := Nat.pow_le_pow_right (by decide) (by omega)
  have h2 : (b + 1) * 256 ^ s ≤ 256 * 256 ^ s := Nat.mul_le_mul_right _ hb
  rw [Nat.add_mul, Nat.one_mul] at h2
  have h3 : b * 256 ^ s + 256 ^ s ≤ 4294967296 := by omega
  have e1 : ((b : Int) * 2 ^ (8 * s)) = ((b * 256 ^ s : Nat) : Int) := by rw [pow256, Nat.mul_comm 8, Int.natCast_mul, Int.natCast_pow]; rfl
  refine ⟨?_, by omega⟩
  rw [e1, show IntKind.u32.wrap ((b * 256 ^ s : Nat) : Int) = ((b * 256 ^ s : Nat) : Int) by rw [IntKind.wrap_u32]; omega, IntKind.wrap_u32]
  omega

set_option maxRecDepth 100000 in
set_option maxHeartbeats 4000000 in
theorem words_any {w : World} {s : ByteArray} (hs : s.size ≤ 1000000000) (hf : Formed s.data.toList) :
    Calls Try.prog 67 #[.string s] w (CutW w (bval s.data.toList)) := by
  obtain ⟨l, hl⟩ : ∃ l, l = s.data.toList := ⟨_, rfl⟩
  obtain ⟨n, hsn⟩ : ∃ n, n = s.size := ⟨_, rfl⟩
  have hn : n = l.length := by rw [hl, hsn]; exact Array.length_toList.symm
  have hget : ∀ j (h : j < s.size) (h' : j < l.length), s[j] = l[j] := by subst hl; intro j h h'; rfl
  rw [← hl] at hf ⊢
  have Hn := Lib.hid (And.intro hn (And.intro hsn (And.intro hget hf)))
  have hnl : n ≤ 1000000000 := by omega
  have hmk : ∀ w : World, (Instr.makeSlice 80 (.int .i64 (((s.size : Int) + 3) / 4)) (.int .i64 (((s.size : Int) + 3) / 4))).run Try.prog w = .ok (.slice (some ⟨w.heap.size, 0, none⟩) ((n + 3) / 4) ((n + 3) / 4)) (w.alloc (.cells (wcells (List.replicate ((n + 3) / 4) 0)) 98)) := fun w => by
    have := run_makeW ((n + 3) / 4) (by omega) w
    rw [← this, show (((n + 3) / 4 : Nat) : Int) = ((s.size : Int) + 3) / 4 by omega]
  clear hn hl hget hf hsn
  go_enter Try.func67, Try.ntmps67
  go_wp2_with fail
  go_loopg [4] n (fun k iv wr => ∃ (i : Nat) (L : List Nat), iv = .int .i64 (i : Int) ∧ k = n - i ∧ i ≤ n ∧ Blk wr w.heap.size 98 (wcells L) ∧ Below w.heap.size w wr ∧
    Hid (L.length = (n + 3) / 4 ∧ Wd L ∧ val L = bval (l.drop (n - i))))
  case atStart => exact ⟨0, List.replicate ((n + 3) / 4) 0, rfl, by omega, by omega, Blk.new _ _ _, (Below.refl _ _).alloc (Nat.le_refl _) _, by simp, wd_zeros _, by rw [val_zeros, List.drop_of_length_le (by rw [← Hn.out.1]; omega)]; rfl⟩
  case round =>
    obtain ⟨i, L, rfl, hk, hi, hblk, hbel, hL⟩ := hrel
    have Hk := Lib.hid hk
    clear hk
    by_cases hin : i < n
    · obtain ⟨j, hj⟩ : ∃ j, n = i + 1 + j := ⟨n - (i + 1), by omega⟩
      have hjl : j < l.length := by rw [← Hn.out.1]; omega
      have hjs : j < s.size := by rw [← Hn.out.2.1]; omega
      have hys := Hn.out.2.2.1 j hjs hjl
      have hiL : i / 4 < L.length := by have := hL.out.1; omega
      have hout : wr.cell? ⟨w.heap.size, i / 4, none⟩ = some (.int .u32 ((L[i / 4] : Nat) : Int)) := by rw [hblk.cell, wcells_get, List.getElem?_eq_getElem hiL]; rfl
      have hfz := hblk.frozen (i / 4)
      have hvl : val L < 256 ^ i := by
        rw [hL.out.2.2]
        have := bval_lt (l.drop (n - i))
        rw [List.length_drop, ← Hn.out.1, show n - (n - i) = i by omega] at this
        exact this
      have hws := word_small hvl hiL
      have hbt := UInt8.toNat_lt l[j]
      have hor := add_byte (Nat.mod_lt i (by decide)) hws hbt
      have hbs := byte_step (b := l[j].toNat) hiL
      have hbd : bval (l.drop j) = l[j].toNat * 256 ^ i + bval (l.drop (j + 1)) := by
        rw [bval_drop hjl, ← Hn.out.1, show n - (j + 1) = i by omega]
      obtain ⟨T, hT⟩ : ∃ T, T = L[i / 4] + l[j].toNat * 256 ^ (i % 4) := ⟨_, rfl⟩
      rw [← hT] at hor hbs
      have Hbs := Lib.hid (And.intro hbs hbd)
      obtain ⟨hor1, hor2⟩ := hor
      have hT2 : T ≤ 4294967295 := by omega
      have hy2 : (s[j]).toNat = l[j].toNat := by rw [hys]
      clear hys
      generalize hx : L[i / 4] = x at *
      generalize hy : l[j].toNat = y at *
      have Hj := Lib.hid hj
      have hii : (i : Int) < (s.size : Int) := by rw [← Hn.out.2.1]; omega
      have hjj : (j : Int) < (s.size : Int) := by omega
      have hdii : decide ((i : Int) < (s.size : Int)) = true := by simp; omega
      clear hx hy hws hvl hbs hbd hT hor2 hj
      obtain ⟨S, hS⟩ : ∃ S, S = 8 * (i % 4) := ⟨_, rfl⟩
      rw [← hS] at hor1
      have q1 : IntKind.i64.wrap ((i : Int) / 4) = (i : Int) / 4 := IntWalk.i64_in _ (by omega)
      have q2 : (0 : Int) ≤ (i : Int) / 4 := by omega
      have q3 : (i : Int) / 4 < ((s.size : Int) + 3) / 4 := by omega
      have q3' : (i : Int) / 4 < ((n : Int) + 3) / 4 := by have := Hn.out.2.1; omega
      have q4 : ((i : Int) / 4).toNat = i / 4 := by omega
      have q5 : IntKind.i64.wrap (8 * (i : Int).tmod 4) = (S : Int) := by
        rw [show (i : Int).tmod 4 = ((i % 4 : Nat) : Int) from rfl, IntWalk.i64_in _ (by omega)]
        omega
      have hS31 : S ≤ 24 := by omega
      clear hS
      have q6 : IntKind.u32.wrap (y : Int) = (y : Int) := by rw [IntKind.wrap_u32]; omega
      go_wp2_with fail
      rw [show (s.size : Int) - 1 - (i : Int) = (j : Int) by have := Hj.out; have := Hn.out.2.1; omega]
      refine wp_region_noPanic ?_
      refine wp_region_HK (fun w' => w'.cell? ⟨w.heap.size, i / 4, none⟩ = some (.int .u32 (x : Int))) 18 (by kernel_rfl) hout (fun hHeld => ?_)
      refine wpHK_pure (i := 0) (oi := Oper.mk (some 22) _ _ _ _ _) (v := ?_) rfl (by kernel_rfl) (by kernel_rfl) (by kernel_rfl) (fun _ _ _ h => h) (Or.inl ⟨by rfl, ?_⟩) ?_
      rotate_left
      · (intro w' _; go_simp; try with_reducible rfl)
      try simp only [Act.put, List.setIfInBounds_toArray, List.set_cons_zero, List.set_cons_succ]
      refine wpHK_pure (i := 1) (oi := Oper.mk (some 23) _ _ _ _ _) (v := ?_) rfl (by kernel_rfl) (by kernel_rfl) (by kernel_rfl) (fun _ _ _ h => h) (Or.inl ⟨by rfl, ?_⟩) ?_
      rotate_left
      · (intro w' _; go_simp; try with_reducible rfl)
      try simp only [Act.put, List.setIfInBounds_toArray, List.set_cons_zero, List.set_cons_succ]
      refine wpHK_pure (i := 2) (oi := Oper.mk (some 24) _ _ _ _ _) (v := ?_) rfl (by kernel_rfl) (by kernel_rfl) (by kernel_rfl) (fun _ _ _ h => h) (Or.inl ⟨by rfl, ?_⟩) ?_
      rotate_left
      · (intro w' _; go_simp; try with_reducible rfl)
      try simp only [Act.put, List.setIfInBounds_toArray, List.set_cons_zero, List.set_cons_succ]
      refine wpHK_pure (i := 3) (oi := Oper.mk (some 25) _ _ _ _ _) (v := ?_) rfl (by kernel_rfl) (by kernel_rfl) (by kernel_rfl) (fun _ _ _ h => h) (Or.inl ⟨by rfl, ?_⟩) ?_
      rotate_left
      · (intro w' _; go_simp; try with_reducible rfl)
      try simp only [Act.put, List.setIfInBounds_toArray, List.set_cons_zero, List.set_cons_succ]
      refine wpHK_pure (i := 4) (oi := Oper.mk (some 26) _ _ _ _ _) (v := ?_) rfl (by kernel_rfl) (by kernel_rfl) (by kernel_rfl) (fun _ _ _ h => h) (Or.inl ⟨by rfl, ?_⟩) ?_
      rotate_left
      · (intro w' _; go_simp; try with_reducible rfl)
      try simp only [Act.put, List.setIfInBounds_toArray, List.set_cons_zero, List.set_cons_succ]
      refine wpHK_pure (i := 5) (oi := Oper.mk (some 27) _ _ _ _ _) (v := ?_) rfl (by kernel_rfl) (by kernel_rfl) (by kernel_rfl) (fun _ _ _ h => h) (Or.inl ⟨by rfl, ?_⟩) ?_
      rotate_left
      · (intro w' _; go_simp; try with_reducible rfl)
      try simp only [Act.put, List.setIfInBounds_toArray, List.set_cons_zero, List.set_cons_succ]
      refine wpHK_pure (i := 6) (oi := Oper.mk (some 28) _ _ _ _ _) (v := ?_) rfl (by kernel_rfl) (by kernel_rfl) (by kernel_rfl) (fun _ _ _ h => h) (Or.inl ⟨by rfl, ?_⟩) ?_
      rotate_left
      · (intro w' _; go_simp; try with_reducible rfl)
      try simp only [Act.put, List.setIfInBounds_toArray, List.set_cons_zero, List.set_cons_succ]
      refine wpHK_pure (i := 8) (oi := Oper.mk (some 30) _ _ _ _ _) (v := ?_) rfl (by kernel_rfl) (by kernel_rfl) (by kernel_rfl) (fun _ _ _ h => h) (Or.inl ⟨by rfl, ?_⟩) ?_
      rotate_left
      · (intro w' _; go_simp; try with_reducible rfl)
      try simp only [Act.put, List.setIfInBounds_toArray, List.set_cons_zero, List.set_cons_succ]
      refine wpHK_pure (i := 9) (oi := Oper.mk (some 31) _ _ _ _ _) (v := ?_) rfl (by kernel_rfl) (by kernel_rfl) (by kernel_rfl) (fun _ _ _ h => h) (Or.inl ⟨by rfl, ?_⟩) ?_
      rotate_left
      · (intro w' _; go_simp; try with_reducible rfl)
      try simp only [Act.put, List.setIfInBounds_toArray, List.set_cons_zero, List.set_cons_succ]
      refine wpHK_pure (i := 10) (oi := Oper.mk (some 32) _ _ _ _ _) (v := ?_) rfl (by kernel_rfl) (by kernel_rfl) (by kernel_rfl) (fun _ _ _ h => h) (Or.inl ⟨by rfl, ?_⟩) ?_
      rotate_left
      · (intro w' _; go_simp; try with_reducible rfl)
      try simp only [Act.put, List.setIfInBounds_toArray, List.set_cons_zero, List.set_cons_succ]
      refine wpHK_pure (i := 11) (oi := Oper.mk (some 33) _ _ _ _ _) (v := ?_) rfl (by kernel_rfl) (by kernel_rfl) (by kernel_rfl) (fun _ _ _ h => h) (Or.inl ⟨by rfl, ?_⟩) ?_
      rotate_left
      · (intro w' _; go_simp; try with_reducible rfl)
      try simp only [Act.put, List.setIfInBounds_toArray, List.set_cons_zero, List.set_cons_succ]
      refine wpHK_pure (i := 12) (oi := Oper.mk (some 34) _ _ _ _ _) (v := ?_) rfl (by kernel_rfl) (by kernel_rfl) (by kernel_rfl) (fun _ _ _ h => h) (Or.inl ⟨by rfl, ?_⟩) ?_
      rotate_left
      · (intro w' _; go_simp; try with_reducible rfl)
      try simp only [Act.put, List.setIfInBounds_toArray, List.set_cons_zero, List.set_cons_succ]
      refine wpHK_pure (i := 13) (oi := Oper.mk (some 35) _ _ _ _ _) (v := ?_) rfl (by kernel_rfl) (by kernel_rfl) (by kernel_rfl) (fun _ _ _ h => h) (Or.inl ⟨by rfl, ?_⟩) ?_
      rotate_left
      · (intro w' _; go_simp; try with_reducible rfl)
      try simp only [Act.put, List.setIfInBounds_toArray, List.set_cons_zero, List.set_cons_succ]
      refine wpHK_pure (i := 14) (oi := Oper.mk (some 36) _ _ _ _ _) (v := ?_) rfl (by kernel_rfl) (by kernel_rfl) (by kernel_rfl) (fun _ _ _ h => h) (Or.inl ⟨by rfl, ?_⟩) ?_
      rotate_left
      · (intro w' _; go_simp; try with_reducible rfl)
      try simp only [Act.put, List.setIfInBounds_toArray, List.set_cons_zero, List.set_cons_succ]
      refine wpHK_pure (i := 15) (oi := Oper.mk (some 37) _ _ _ _ _) (v := ?_) rfl (by kernel_rfl) (by kernel_rfl) (by kernel_rfl) (fun _ _ _ h => h) (Or.inl ⟨by rfl, ?_⟩) ?_
      rotate_left
      · (intro w' _; go_simp; try with_reducible rfl)
      try simp only [Act.put, List.setIfInBounds_toArray, List.set_cons_zero, List.set_cons_succ]
      refine wpHK_take (i := 7) (oi := Oper.mk (some 29) _ _ _ _ _) (v := ?_) rfl (by kernel_rfl) (by kernel_rfl) (by kernel_rfl) (by kernel_rfl) (fun _ _ _ h => h) (Or.inl ⟨by rfl, ?_⟩) (by assumption) ?_
      rotate_left
      · (intro w' hSw; (try dsimp only at hSw); (obtain s1 := hSw); go_simp; try with_reducible rfl)
      try simp only [Act.put, List.setIfInBounds_toArray, List.set_cons_zero, List.set_cons_succ]
      refine wpHK_pure (i := 16) (oi := Oper.mk (some 38) _ _ _ _ _) (v := ?_) rfl (by kernel_rfl) (by kernel_rfl) (by kernel_rfl) (fun _ _ _ h => h) (Or.inl ⟨by rfl, ?_⟩) ?_
      rotate_left
      · (intro w' _; go_simp; try with_reducible rfl)
      try simp only [Act.put, List.setIfInBounds_toArray, List.set_cons_zero, List.set_cons_succ]
      refine wpHK_pure (i := 17) (oi := Oper.mk (some 39) _ _ _ _ _) (v := ?_) rfl (by kernel_rfl) (by kernel_rfl) (by kernel_rfl) (fun _ _ _ h => h) (Or.inl ⟨by rfl, ?_⟩) ?_
      rotate_left
      · (intro w' _; go_simp; try with_reducible rfl)
      try simp only [Act.put, List.setIfInBounds_toArray, List.set_cons_zero, List.set_cons_succ]
      refine wpHK_tail (j := 18) (o := Oper.mk (none) _ _ _ _ _) rfl (by kernel_rfl) (by decide) (fun K hK => ?_)
      go_simp
      refine hK.out _ _ ?_
      clear hK K
      try simp only [Act.put, List.setIfInBounds_toArray, List.set_cons_zero, List.set_cons_succ]
      refine wpHK_done (by kernel_rfl) ?_ _
      refine NoPanic.normal ?_
      clear q1 q2 q3 q4 q5 q6
      go_wp2_with fail
      go_roundg (n - (i + 1))
      case measure => have := Hk.out; omega
      case rel =>
        refine ⟨i + 1, L.set (i / 4) T, rfl, rfl, by omega, ?_, ?_, ?_⟩
        · have := hblk.set_ (i / 4) (.int .u32 (T : Int))
          rw [wcells_set] at this
          exact this
        · exact (hbel.setCell (by show w.heap.size ≤ w.heap.size; omega) _).drew
        · refine ⟨by rw [List.length_set]; exact hL.out.1, wd_set hL.out.2.1 _ _ (by omega), ?_⟩
          have h5 := Hbs.out.1
          rw [hL.out.2.2, show n - i = j + 1 by have := Hj.out; omega] at h5
          rw [show n - (i + 1) = j by have := Hj.out; omega, Hbs.out.2, h5, Nat.mul_comm, Nat.add_comm]
    · have hi' : i = n := by omega
      have hii : (s.size : Int) ≤ (i : Int) := by rw [← Hn.out.2.1]; omega
      have hdii : decide ((i : Int) < (s.size : Int)) = false := by simp; omega
      have hv := hL.out.2.2
      rw [show n - i = 0 by omega, List.drop_zero] at hv
      have Hv := Lib.hid hv
      clear hi' hv
      go_wp2_with fail
      go_ret
      refine cutw_end hblk hL.out.1 (by omega) hL.out.2.1 Hv.out hbel ?_
      rw [Hv.out, words_len Hn.out.2.2.2, ← Hn.out.1]
end Go.Proofs.Ytpnginnjbdedbaa

/- whole.of. -/
namespace Go.Proofs.Ytpnginnjbdedbaa
open Go.RowKit
open Wh
set_option linter.unusedSimpArgs false

def pv (g : Nat) : Value := .pointer (some ⟨g, 0, none⟩)
theorem pv_one (l : List Nat) : ∀ u ∈ l.map pv, u.oneCell' = true := by
  intro u hu
  obtain ⟨b, _, rfl⟩ := List.mem_map.1 hu
  rfl
theorem infoP : (Try.prog.info? 79).map (fun i => (i.zero, i.size, i.bytes)) = some (some (.pointer none), 1, 8) := by kernel_rfl
/-- new pointers -/
def OwnP (w : World) (B : Nat) (v : Value) (l : List Nat) : Prop := w.ownsRow B 79 1 v l.length (l.map pv)
theorem OwnP.form {w : World} {B : Nat} {v : Value} {l : List Nat} (h : OwnP w B v l) : ∃ A c, v = .slice A l.length c ∧ l.length ≤ c := by
  rcases h.2 with ⟨rfl, h0⟩ | ⟨g, cap, cur, rfl, _, _, hc, hm, _⟩
  · exact ⟨none, 0, by rw [h0], by omega⟩
  · exact ⟨_, cap, rfl, hc⟩
theorem OwnP.len {w : World} {B n c : Nat} {A : Option Addr} {l : List Nat} (h : OwnP w B (.slice A n c) l) : n = l.length := by
  obtain ⟨A', c', e, h1⟩ := h.form
  injection e
theorem OwnP.nil (w : World) (B : Nat) : OwnP w B (.slice none 0 0) [] := World.ownsRow_nil w B _ 1
/-- pointers that are read -/
def ReadsP (w : World) (B : Nat) (A : Option Addr) (l : List Nat) : Prop := Reads w B 1 A l.length (l.map pv)
theorem ReadsP.at_ {w : World} {B : Nat} {A : Option Addr} {l : List Nat} (h : ReadsP w B A l) {k : Nat} (hk : k < l.length) : ∃ ad, A = some ad ∧ ad.block < B ∧ w.cell? (ad.add k) = some (.pointer (some ⟨l[k], 0, none⟩)) := by
  obtain ⟨ad, u, e, hb, hu, hc⟩ := Reads.at_ h hk
  refine ⟨ad, e, hb, ?_⟩
  rw [hc]
  rw [List.getElem?_map, List.getElem?_eq_getElem hk] at hu
  exact hu.symm
theorem OwnP.reads {w : World} {B n c : Nat} {A : Option Addr} {l : List Nat} (h : OwnP w B (.slice A n c) l) : ReadsP w w.heap.size A l := by
  obtain rfl := h.len
  exact Reads.of_own h
/-- append(l, p) -/
theorem wpP_push {w : World} {ops : Array Oper} {rest : List Oper} {o : Oper} {a : Act} {Q : Exit → Act → World → Prop} (hgd : o.guard = none) (s x : Operand)
    (ho : o.op = .call { callee := .builtin .append, args := #[s, x], argTypes := #[76, 76] }) (B : Nat) (v : Value) (l : List Nat) (hown : OwnP w B v l) (hs : a.eval s = v)
    {g : Nat} (hx : a.eval x = .slice (some ⟨w.heap.size, 0, none⟩) 1 1) (hlen : l.length ≤ 1000000000) (hbase : B ≤ w.heap.size)
    (h : ∀ A' n' c' w', OwnP w' B (.slice A' n' c') (l ++ [g]) → (∀ w0, Below B w0 w → Below B w0 w') → w.grownBy w' v.ownBlock → wpList Try.prog ops Q rest (a.put o.dst (.slice A' n' c')) w') :
    wpList Try.prog ops Q (o :: rest) a (w.alloc (.cells #[.pointer (some ⟨g, 0, none⟩)] 79)) := by
  obtain ⟨i0, hi, hz0, hz1, hz2⟩ := info_parts infoP
  have hr : Reads (w.alloc (.cells #[.pointer (some ⟨g, 0, none⟩)] 79)) (w.heap.size + 1) 1 (some ⟨w.heap.size, 0, none⟩) 1 ([g].map pv) := by
    refine ⟨by simp, fun _ => ⟨_, rfl, Nat.lt_succ_self _, fun j u hu => ?_⟩⟩
    have hb := Blk.new w 79 #[.pointer (some ⟨g, 0, none⟩)]
    match j, hu with
    | 0, hu => rw [Addr.add_zero', hb.cell 0]; exact hu
    | j + 1, hu => simp at hu
  refine wpList_append_any _ hgd s x 76 ho B 79 i0 (.pointer none) 1 8 Try.underlying76 hi hz0 hz1 hz2 rfl (by decide) v l.length (l.map pv) hs (hown.alloc _) _ _ 1 1 ([g].map pv) hx hr (pv_one _) (by unfold maxLen; omega) (by omega) (by simp; omega) ?_
  intro v' w' h1 h2 h3
  have h4 : OwnP w' B v' (l ++ [g]) := by
    unfold OwnP
    rw [List.length_append, List.map_append]
    exact h1
  obtain ⟨A', c', rfl, _⟩ := h4.form
  have h5 : w.grownBy w' v.ownBlock := ⟨h2.os, h2.tape, h2.output, Nat.le_trans (by simp) h2.size, fun i hi hne => (h2.block i (by simp; omega) hne).trans (Below.heap_alloc w _ i hi)⟩
  exact h A' _ c' w' h4 (fun w0 hb => (hb.alloc hbase _).grown h2 (by simp; omega) (fun k hk => (World.ownsRow.lt hown k hk).1)) h5

/-- the number of a sign and bytes -/
def num (a : Bool × ByteArray) : Int := sgn a.1 (bval a.2.data.toList)
def wcs (a : Bool × ByteArray) : List Value := [.bool a.1, .string a.2]
/-- whole numbers that are read -/
def ReadsWh (w : World) (B : Nat) (A : Option Addr) (l : List (Bool × ByteArray)) : Prop := Reads w B 2 A l.length (l.flatMap wcs)
theorem flat_get : ∀ (l : List (Bool × ByteArray)) (k : Nat) (h : k < l.length), (l.flatMap wcs)[2 * k]? = some (.bool l[k].1) ∧ (l.flatMap wcs)[2 * k + 1]? = some (.string l[k].2)
  | x :: r, 0, _ => ⟨rfl, rfl⟩
  | x :: r, k + 1, h => by
    have := flat_get r k (by simpa using h)
    rw [show 2 * (k + 1) = 2 * k + 1 + 1 by omega]
    exact this
theorem ReadsWh.at_ {w : World} {B : Nat} {A : Option Addr} {l : List (Bool × ByteArray)} (h : ReadsWh w B A l) {k : Nat} (hk : k < l.length) : ∃ ad, A = some ad ∧ ad.block < B ∧ w.cell? (ad.add (k * 2)) = some (.bool l[k].1) ∧ w.cell? ⟨(ad.add (k * 2)).block, (ad.add (k * 2)).off + 1, none⟩ = some (.string l[k].2) := by
  obtain ⟨ad, e, hb, hc⟩ := h.2 (by omega)
  obtain ⟨h1, h2⟩ := flat_get l k hk
  refine ⟨ad, e, hb, ?_, ?_⟩
  · rw [Nat.mul_comm]; exact hc _ _ h1
  · have := hc _ _ h2
    rw [Nat.mul_comm, ← add_of_add, add_pos (by decide)] at this
    exact this
/-- numbers in their blocks, each a block of its own -/
def Ints (w : World) : List Nat → List Int → Prop
  | [], [] => True
  | g :: gs, z :: zs => IntB w g z ∧ g ∉ gs ∧ Ints w gs zs
  | _, _ => False

theorem Ints.keep {w w' : World} : ∀ {gs : List Nat} {zs : List Int}, (∀ g ∈ gs, ∀ z, IntB w g z → IntB w' g z) → Ints w gs zs → Ints w' gs zs
  | [], [], _, _ => trivial
  | g :: gs, z :: zs, h, ⟨h1, h2, h3⟩ => ⟨h g (by simp) z h1, h2, Ints.keep (fun g' hg' => h g' (by simp [hg'])) h3⟩
  | [], _ :: _, _, h => h.elim
  | _ :: _, [], _, h => h.elim
theorem Ints.snoc {w : World} {g : Nat} {z : Int} : ∀ {gs : List Nat} {zs : List Int}, Ints w gs zs → IntB w g z → g ∉ gs → Ints w (gs ++ [g]) (zs ++ [z])
  | [], [], _, h, _ => ⟨h, by simp, trivial⟩
  | g' :: gs, z' :: zs, ⟨h1, h2, h3⟩, h, hn => ⟨h1, by
      show ¬ g' ∈ gs ++ [g]
      rw [List.mem_append]
      rintro (h5 | h5)
      · exact h2 h5
      · simp only [List.mem_singleton] at h5
        exact hn (by simp [h5]), Ints.snoc h3 h (fun h5 => hn (by simp [h5]))⟩
  | [], _ :: _, h, _, _ => h.elim
  | _ :: _, [], h, _, _ => h.elim
theorem IntB.other {w w' : World} {g : Nat} {z : Int} {row : Option Nat} (h : IntB w g z) (hg : w.grownBy w' row) (hr : ∀ r, row = some r → ∃ cs t fz, w.heap[r]? = some (.cells cs t fz) ∧ t ≠ 98 ∧ t ≠ 82) : IntB w' g z := by
  obtain ⟨s, A, n, c, hb, h1, h2, h3, hrd⟩ := h
  refine ⟨s, A, n, c, hb.grown hg ?_, h1, h2, h3, (hrd.other hg (Nat.le_refl _) fun r e => ?_).more hg.size⟩
  · intro e
    obtain ⟨cs, t, fz, hh, _, hne⟩ := hr g e.symm
    unfold Blk at hb
    rw [hb] at hh
    injection hh with hh
    injection hh with _ h5
    exact hne h5.symm
  · obtain ⟨cs, t, fz, hh, hne, _⟩ := hr r e
    exact ⟨cs, t, fz, hh, hne⟩
theorem OwnP.row {w : World} {B : Nat} {v : Value} {l : List Nat} (h : OwnP w B v l) : ∀ r, v.ownBlock = some r → ∃ cs t fz, w.heap[r]? = some (.cells cs t fz) ∧ t ≠ 98 ∧ t ≠ 82 := by
  intro r hr
  rcases h.2 with ⟨rfl, _⟩ | ⟨g, cap, cur, rfl, _, hh, _⟩
  · cases hr
  · injection hr with hr
    simp only at hr
    subst hr
    exact ⟨_, _, _, hh, by decide, by decide⟩
theorem OwnP.kept {w w' : World} {B : Nat} {v : Value} {l : List Nat} (h : OwnP w B v l) (hb : Below w.heap.size w w') : OwnP w' B v l := by
  refine ⟨h.1, ?_⟩
  rcases h.2 with h' | ⟨g, cap, cur, hv, hg, hh, r⟩
  · exact .inl h'
  · exact .inr ⟨g, cap, cur, hv, hg, (hb.block g (Array.getElem?_eq_some_iff.1 hh).1).trans hh, r⟩
theorem len_mag {l : List UInt8} (h : l.length ≤ 16384) : (wds (bval l)).length ≤ 5000 := by
  have h1 := bval_lt l
  refine Nat.le_trans (len_wds (k := (l.length + 3) / 4) ?_) (by omega)
  rw [show (4294967296 : Nat) = 256 ^ 4 by decide, ← Nat.pow_mul]
  exact Nat.lt_of_lt_of_le h1 (Nat.pow_le_pow_right (by decide) (by omega))
theorem Ints.lt {w : World} : ∀ {gs : List Nat} {zs : List Int}, Ints w gs zs → ∀ g ∈ gs, g < w.heap.size
  | [], [], _, g, hg => by cases hg
  | g' :: gs, z :: zs, ⟨h1, _, h3⟩, g, hg => by
    rcases List.mem_cons.1 hg with rfl | hg
    · exact h1.lt
    · exact Ints.lt h3 g hg
  | [], _ :: _, h, _, _ => h.elim
  | _ :: _, [], h, _, _ => h.elim
theorem bytes_below (w : World) (s : ByteArray) : Below w.heap.size w (Lib.bytesWorld w 5 s) := ⟨rfl, rfl, rfl, by rw [Lib.bytesWorld_size]; omega, fun i hi => Lib.bytesWorld_at_old w 5 s i hi⟩
theorem bytes_reads (w : World) (s : ByteArray) : ReadsB (Lib.bytesWorld w 5 s) (Lib.bytesWorld w 5 s).heap.size (some ⟨w.heap.size, 0, none⟩) s.data.toList := by
  have hl : s.data.toList.length = s.size := Array.length_toList
  refine ⟨by simp, fun _ => ⟨_, rfl, by rw [Lib.bytesWorld_size]; exact Nat.lt_succ_self _, fun j u hu => ?_⟩⟩
  have hj : j < s.size := by
    rcases Nat.lt_or_ge j s.size with h | h
    · exact h
    · rw [List.getElem?_map, List.getElem?_eq_none (by omega)] at hu; cases hu
  rw [Addr.add_lit, Nat.zero_add, Lib.bytesWorld_cell w 5 s j hj, ← hu, List.getElem?_map, List.getD_eq_getElem?_getD, List.getElem?_eq_getElem (by omega)]
  rfl
/-- all may be: their blocks -/
def OfOk (w : World) (zs : List Int) (e : Ending) (w' : World) : Prop := ∃ A n c gs, e = .returned (.tuple #[.slice A n c, .bool true]) ∧ Hid (n = gs.length ∧ gs.length = zs.length) ∧ ReadsP w' w'.heap.size A gs ∧ Ints w' gs zs ∧ Below w.heap.size w w' ∧ (∀ g ∈ gs, w.heap.size ≤ g)
/-- one may not be -/
def OfNo (w : World) (e : Ending) (w' : World) : Prop := ∃ A n c, e = .returned (.tuple #[.slice A n c, .bool false]) ∧ Below w.heap.size w w'
theorem num_take {l : List (Bool × ByteArray)} {i : Nat} (h : i < l.length) : (l.take (i + 1)).map num = (l.take i).map num ++ [num l[i]] := by
  rw [List.take_succ_eq_append_getElem h, List.map_append]; rfl
def AllMay (l : List (Bool × ByteArray)) : Prop := ∀ a ∈ l, MayL a.1 a.2.data.toList
def Ofs (w : World) (l : List (Bool × ByteArray)) (e : Ending) (w' : World) : Prop := (AllMay l → OfOk w (l.map num) e w') ∧ (¬ AllMay l → OfNo w e w')

set_option maxRecDepth 100000 in
set_option maxHeartbeats 8000000 in
theorem ofs_any {w : World} {B n c : Nat} {A : Option Addr} {l : List (Bool × ByteArray)} (hr : ReadsWh w B A l) (hB : B ≤ w.heap.size) (hn : n = l.length) (hnl : n ≤ 100000) :
    Calls Try.prog 62 #[.slice A n c] w (Ofs w l) := by
  have Hn := Lib.hid hn
  have kc := fun (W : World) (s : ByteArray) => Lib.run_convert_string_bytes (P := Try.prog) W 9 107 5 s Try.underlying9 Try.underlying107 Try.underlying5
  clear hn
  go_enter Try.func62, Try.ntmps62
  go_wp2_with fail
  go_loopg [4, 10] n (fun k ov iv wr => ∃ (i : Nat) (A' : Option Addr) (n' c' : Nat) (gs : List Nat), ov = .slice A' n' c' ∧ iv = .int .i64 (i : Int) ∧ k = n - i ∧ i ≤ n ∧ OwnP wr w.heap.size (.slice A' n' c') gs ∧ Below w.heap.size w wr ∧ Ints wr gs ((l.take i).map num) ∧
    Hid (gs.length = i ∧ (∀ g ∈ gs, w.heap.size ≤ g) ∧ AllMay (l.take i)))
  case atStart => exact ⟨0, none, 0, 0, [], rfl, rfl, rfl, by omega, OwnP.nil _ _, Below.refl _ _, trivial, rfl, fun g hg => (by cases hg), fun a ha => (by simp at ha)⟩
  case round =>
    obtain ⟨i, A', n', c', gs, rfl, rfl, hk, hi, hown, hbel, hints, hgs⟩ := hrel
    have Hk := Lib.hid hk
    clear hk
    by_cases hin : i < n
    · have hil : i < l.length := by rw [← Hn.out]; exact hin
      obtain ⟨ad, rfl, hb1, c0, c1⟩ := hr.at_ hil
      have c0' := (hbel.cell (p := ad.add (i * 2)) (by rw [block_of_add]; omega)).trans c0
      have c1' := (hbel.cell (p := ⟨(ad.add (i * 2)).block, (ad.add (i * 2)).off + 1, none⟩) (by show (ad.add (i * 2)).block < _; rw [block_of_add]; omega)).trans c1
      have hii : (i : Int) < (n : Int) := by omega
      have Hnt := Lib.hid (num_take hil)
      have hmem : l[i] ∈ l := List.getElem_mem hil
      have htk : l.take (i + 1) = l.take i ++ [l[i]] := List.take_succ_eq_append_getElem hil
      obtain ⟨a, ha⟩ : ∃ a, a = l[i] := ⟨_, rfl⟩
      rw [← ha] at c0 c1 c0' c1' Hnt hmem htk
      obtain ⟨ng, s⟩ := a
      have Hm := Lib.hid (And.intro hmem htk)
      clear c0 c1 hr ha hmem htk
      by_cases hmay : MayL ng s.data.toList
      · have hsz : s.size ≤ 16384 := by have := hmay.1; rw [show s.data.toList.length = s.size from Array.length_toList] at this; exact this
        have HC := Lib.hid (check_ok (w := wr.alloc (.cells #[.bool ng, .string s] 26)) hmay)
        have Hmay := Lib.hid hmay
        clear hmay
        go_wp2_with fail
        refine HC.out.mono ?_
        rintro e w2 ⟨rfl, hb2⟩
        have hbk := (Blk.new wr 26 #[.bool ng, .string s]).below hb2 (by simp)
        have d0 : w2.cell? ⟨wr.heap.size, 0, none⟩ = some (.bool ng) := hbk.cell 0
        have d1 : w2.cell? ⟨wr.heap.size, 1, none⟩ = some (.string s) := hbk.cell 1
        have hb2' : Below wr.heap.size wr w2 := ((Below.refl _ _).alloc (Nat.le_refl _) _).trans (hb2.mono (by simp))
        have hgr : wr.heap.size < w2.heap.size := hbk.lt
        clear hbk hb2
        go_wp2_with fail
        have hrd := bytes_reads (w2.alloc (.cells #[.bool false, .slice none 0 0] 82)) s
        rw [World.size_alloc] at hrd
        have hbb := bytes_below (w2.alloc (.cells #[.bool false, .slice none 0 0] 82)) s
        have hsl : s.data.toList.length = s.size := Array.length_toList
        have HS := Lib.hid (setbytes_any (c := grownCap (w2.alloc (.cells #[.bool false, .slice none 0 0] 82)) s.size 0 5) ((IntB.zero w2).slot.below hbb) hrd (Nat.le_refl _) hsl.symm (by omega))
        have hlen := len_mag Hmay.out.1
        have hlt := hints.lt
        clear hrd
        go_wp2_with fail
        refine HS.out.mono ?_
        rintro e w3 ⟨rfl, hi3, hg3⟩
        have hb23 : Below w2.heap.size w2 w3 := ((new_below w2 _).trans (hbb.mono (by simp))).grown hg3 (by rw [Lib.bytesWorld_size]; simp; omega) (fun k hk => by injection hk with hk; omega)
        have d0' := (hb23.cell (p := ⟨wr.heap.size, 0, none⟩) hgr).trans d0
        have hbr3 := hb2'.trans (hb23.mono hb2'.size)
        clear hbb HS hg3 hsl d0 d1
        cases ng
        · have d0 := trivial
          have d1 := trivial
          have hnum : (bval s.data.toList : Int) = num (false, s) := rfl
          rw [hnum] at hi3
          have Hi3 := Lib.hid hi3
          have hbw3 := hbel.trans (hbr3.mono hbel.size)
          have hown3 := hown.kept hbr3
          have hints3 := hints.keep (w' := w3) (fun g hg z hz => hz.below hbr3)
          have Hk3 := Lib.hid (And.intro hown3 (And.intro hints3 hbw3))
          have hle3 : w.heap.size ≤ w3.heap.size := hbw3.size
          have hgl : gs.length ≤ 1000000000 := by have := hgs.out.1; omega
          have hown4 := hown3
          clear hown hints hbw3 hown3 hints3 hi3 d0 d1
          go_wp2_with (at_builtin; refine wpP_push rfl (.tmp 32) (.tmp 34) rfl w.heap.size _ gs hown4 rfl (g := w2.heap.size) rfl hgl hle3 ?_; intro A7 n7 c7 w7 ho7 hkeep hg7; have H7 := Lib.hid (And.intro ho7 (And.intro (hkeep w Hk3.out.2.2) hg7)); clear ho7 hkeep hg7)
          go_roundg (n - (i + 1))
          case measure => have := Hk.out; omega
          case rel =>
            refine ⟨i + 1, A7, n7, c7, gs ++ [w2.heap.size], rfl, rfl, rfl, by omega, H7.out.1, H7.out.2.1, ?_, ?_⟩
            · rw [Hnt.out]
              refine (Hk3.out.2.1.snoc Hi3.out ?_).keep fun g _ z hz => hz.other H7.out.2.2 Hk3.out.1.row
              intro hin2
              have := hlt _ hin2
              omega
            · refine ⟨by rw [List.length_append, hgs.out.1]; rfl, fun g hg => ?_, ?_⟩
              · rcases List.mem_append.1 hg with h | h
                · exact hgs.out.2.1 g h
                · simp only [List.mem_singleton] at h
                  have := hbel.size
                  omega
              · intro a hin2
                rw [Hm.out.2] at hin2
                rcases List.mem_append.1 hin2 with h | h
                · exact hgs.out.2.2 a h
                · simp only [List.mem_singleton] at h
                  rw [h]
                  exact Hmay.out
        · have HN := Lib.hid (neg_any hi3.slot hi3 (by rw [Int.natAbs_natCast]; omega))
          have hsl3 := hi3.slot
          go_wp2_with fail
          refine HN.out.mono ?_
          rintro e w4 ⟨rfl, hi4, hg4⟩
          have hbr4 := up_row hbr3 hg4 hbr3.size (by omega)
          have d0 := trivial
          have d1 := trivial
          have hnum : -(bval s.data.toList : Int) = num (true, s) := rfl
          rw [hnum] at hi4
          clear hbr3 hi3 hsl3 HN hg4
          have Hi4 := Lib.hid hi4
          have hbw4 := hbel.trans (hbr4.mono hbel.size)
          have hown4 := hown.kept hbr4
          have hints4 := hints.keep (w' := w4) (fun g hg z hz => hz.below hbr4)
          have Hk4 := Lib.hid (And.intro hown4 (And.intro hints4 hbw4))
          have hle4 : w.heap.size ≤ w4.heap.size := hbw4.size
          have hgl : gs.length ≤ 1000000000 := by have := hgs.out.1; omega
          have hown4 := hown4
          clear hown hints hbw4 hown4 hints4 hi4 d0 d1
          go_wp2_with (at_builtin; refine wpP_push rfl (.tmp 32) (.tmp 34) rfl w.heap.size _ gs hown4 rfl (g := w2.heap.size) rfl hgl hle4 ?_; intro A7 n7 c7 w7 ho7 hkeep hg7; have H7 := Lib.hid (And.intro ho7 (And.intro (hkeep w Hk4.out.2.2) hg7)); clear ho7 hkeep hg7)
          go_roundg (n - (i + 1))
          case measure => have := Hk.out; omega
          case rel =>
            refine ⟨i + 1, A7, n7, c7, gs ++ [w2.heap.size], rfl, rfl, rfl, by omega, H7.out.1, H7.out.2.1, ?_, ?_⟩
            · rw [Hnt.out]
              refine (Hk4.out.2.1.snoc Hi4.out ?_).keep fun g _ z hz => hz.other H7.out.2.2 Hk4.out.1.row
              intro hin2
              have := hlt _ hin2
              omega
            · refine ⟨by rw [List.length_append, hgs.out.1]; rfl, fun g hg => ?_, ?_⟩
              · rcases List.mem_append.1 hg with h | h
                · exact hgs.out.2.1 g h
                · simp only [List.mem_singleton] at h
                  have := hbel.size
                  omega
              · intro a hin2
                rw [Hm.out.2] at hin2
                rcases List.mem_append.1 hin2 with h | h
                · exact hgs.out.2.2 a h
                · simp only [List.mem_singleton] at h
                  rw [h]
                  exact Hmay.out
      · have HC := Lib.hid (check_no (w := wr.alloc (.cells #[.bool ng, .string s] 26)) hmay)
        have hno : ¬ AllMay l := fun h => hmay (h _ Hm.out.1)
        have Hno := Lib.hid hno
        clear hmay hno
        go_wp2_with fail
        refine HC.out.mono ?_
        rintro e w2 ⟨rfl, hb2⟩
        have hb2' : Below wr.heap.size wr w2 := ((Below.refl _ _).alloc (Nat.le_refl _) _).trans (hb2.mono (by simp))
        go_wp2_with fail
        go_ret2
        exact ⟨fun h => absurd h Hno.out, fun _ => ⟨_, _, _, rfl, hbel.trans (hb2'.mono hbel.size)⟩⟩
    · have hi' : i = n := by omega
      have hii : (n : Int) ≤ (i : Int) := by omega
      have htl : l.take i = l := List.take_of_length_le (by rw [← Hn.out]; omega)
      rw [htl] at hints hgs
      have Hh := Lib.hid (And.intro hown (And.intro hints (And.intro hbel hi')))
      clear htl hi' hown hints hr
      go_wp2_with fail
      go_ret2
      refine ⟨fun _ => ⟨_, _, _, gs, rfl, ⟨Hh.out.1.len, by rw [hgs.out.1, List.length_map, ← Hn.out]; exact Hh.out.2.2.2⟩, Hh.out.1.reads, Hh.out.2.1, Hh.out.2.2.1, hgs.out.2.1⟩, fun h => absurd hgs.out.2.2 h⟩
end Go.Proofs.Ytpnginnjbdedbaa

/- whole.told, whole.Of. -/
namespace Go.Proofs.Ytpnginnjbdedbaa
open Go.RowKit
open Wh
set_option linter.unusedSimpArgs false

/-- a number as a value -/
def enc (z : Int) : Value := .agg #[.bool (decide (z < 0)), .string ⟨(bys z.natAbs).toArray⟩]
def none_ : Value := .agg #[.bool false, .string ⟨#[]⟩]
def fits (z : Int) : Prop := bl z.natAbs ≤ 131072
/-- what is told of a number -/
def Tells (w : World) (z : Int) (e : Ending) (w' : World) : Prop := (fits z → e = .returned (.tuple #[enc z, .int .i64 0])) ∧ (¬ fits z → e = .returned (.tuple #[none_, .int .i64 4])) ∧ Below w.heap.size w w'
theorem sg_neg (z : Int) : decide (sg z < 0) = decide (z < 0) := by
  unfold sg
  by_cases h0 : z = 0
  · subst h0; rfl
  · by_cases h1 : z < 0
    · simp [h0, h1]
    · simp [h0, h1]
set_option maxRecDepth 100000 in
set_option maxHeartbeats 4000000 in
theorem told_any {w : World} {gx : Nat} {z : Int} (hx : IntB w gx z) (hxl : (wds z.natAbs).length ≤ 100000000) :
    Calls Try.prog 64 #[.pointer (some ⟨gx, 0, none⟩)] w (Tells w z) := by
  have hb0 := new_below w (.cells #[.bool false, .string ⟨#[]⟩] 26)
  have hx1 := hx.below hb0
  have HB := Lib.hid (bitlen_any hx1 (by omega))
  unfold Bitted at HB
  obtain ⟨b, hb⟩ : ∃ b, b = bl z.natAbs := ⟨_, rfl⟩
  rw [← hb] at HB
  have Hb := Lib.hid hb
  have Hx := Lib.hid (And.intro hx1 (And.intro hxl hb0))
  by_cases hf : b ≤ 131072
  · have hfi : (b : Int) ≤ 131072 := by omega
    have Hf := Lib.hid (show fits z by unfold fits; rw [← hb]; exact hf)
    clear hb hx hx1 hxl hf hb0
    go_enter Try.func64, Try.ntmps64
    go_wp2_with fail
    refine HB.out.mono ?_
    rintro e w2 ⟨q, rfl, rfl⟩
    have HS := Lib.hid (sign_any (Hx.out.1.drewN q))
    obtain ⟨sv, hsv⟩ : ∃ sv, sv = sg z := ⟨_, rfl⟩
    rw [← hsv] at HS
    have Hsv := Lib.hid hsv
    clear hsv
    go_wp2_with fail
    refine HS.out.mono ?_
    rintro e w3 ⟨rfl, rfl⟩
    have HY := Lib.hid (bytes_any (m := z.natAbs) z rfl (Hx.out.1.drewN q) (by have := Hx.out.2.1; omega))
    go_wp2_with fail
    refine HY.out.mono ?_
    rintro e w4 ⟨A, n, rfl, hn, hr, hb4⟩
    have hstr := run_str (c := n) hn.out hr
    have hb24 : Below (w.alloc (.cells #[.bool false, .string ⟨#[]⟩] 26)).heap.size (w.alloc (.cells #[.bool false, .string ⟨#[]⟩] 26)) w4 := undrewN hb4
    have hbk := (Blk.new w 26 #[.bool false, .string ⟨#[]⟩]).below hb24 (by simp)
    have d0 := hbk.cell 0
    have d1 := hbk.cell 1
    have f0 := hbk.frozen 0
    have f1 := hbk.frozen 1
    have Hb24 := Lib.hid (And.intro hbk hb24)
    clear hbk hb24 hb4 hr
    go_wp2_with fail
    refine bodyPost_ret (v := .tuple #[.agg #[.bool (decide (sv < 0)), .string ⟨(bys z.natAbs).toArray⟩], .int .i64 0]) (by simp [results, Try.results64, go_sem, d0, d1]) rfl ?_
    refine ⟨fun _ => ?_, fun h => absurd Hf.out h, ?_⟩
    · unfold enc
      rw [Hsv.out, sg_neg]
    · exact ((Hx.out.2.2.trans (Hb24.out.2.mono (by simp))).setCell (Nat.le_refl _) _).setCell (Nat.le_refl _) _
  · have hfi : (131072 : Int) < (b : Int) := by omega
    have Hf := Lib.hid (show ¬ fits z by unfold fits; rw [← hb]; exact hf)
    have hbk := Blk.new w 26 #[.bool false, .string ⟨#[]⟩]
    clear hb hx hx1 hxl hf
    go_enter Try.func64, Try.ntmps64
    go_wp2_with fail
    refine HB.out.mono ?_
    rintro e w2 ⟨q, rfl, rfl⟩
    have d0 := (hbk.drewN q).cell 0
    have d1 := (hbk.drewN q).cell 1
    go_wp2_with fail
    refine bodyPost_ret (v := .tuple #[.agg #[.bool false, .string ⟨#[]⟩], .int .i64 4]) (by simp [results, Try.results64, go_sem, d0, d1]) rfl ?_
    refine ⟨fun h => absurd h Hf.out, fun _ => rfl, ?_⟩
    exact ((below_drewN hb0 q).setCell (Nat.le_refl _) _).setCell (Nat.le_refl _) _

theorem bl_small {m : Nat} (h : m ≤ 18446744073709551615) : bl m ≤ 131072 := Nat.le_trans ((bl_lt (k := 64)).2 (by omega)) (by omega)
set_option maxRecDepth 100000 in
set_option maxHeartbeats 800000 in
theorem of64_any {w : World} {n : Int} (h1 : -9223372036854775808 ≤ n) (h2 : n ≤ 9223372036854775807) :
    Calls Try.prog 41 #[.int .i64 n] w (Told w (enc n)) := by
  have hb0 := new_below w (.cells #[.bool false, .string ⟨#[]⟩] 26)
  have HN := Lib.hid (newint_any (w := w.alloc (.cells #[.bool false, .string ⟨#[]⟩] 26)) h1 h2)
  have Hf := Lib.hid (show fits n from bl_small (by omega))
  have hlen : (wds n.natAbs).length ≤ 2 := len_wds (k := 2) (by omega)
  unfold enc
  obtain ⟨sn, hsn⟩ : ∃ sn : Bool, sn = decide (n < 0) := ⟨_, rfl⟩
  obtain ⟨bn, hbn⟩ : ∃ bn : ByteArray, bn = ⟨(bys n.natAbs).toArray⟩ := ⟨_, rfl⟩
  rw [← hsn, ← hbn]
  have He := Lib.hid (show enc n = .agg #[.bool sn, .string bn] by unfold enc; rw [hsn, hbn])
  have Hlen := Lib.hid hlen
  clear hsn hbn h1 h2 hlen
  go_enter Try.func41, Try.ntmps41
  go_wp2_with fail
  refine HN.out.mono ?_
  rintro e w1 ⟨rfl, hi1, hb1⟩
  rw [World.size_alloc] at hi1
  have HT := Lib.hid (told_any hi1 (by have := Hlen.out; omega))
  have hbk := (Blk.new w 26 #[.bool false, .string ⟨#[]⟩]).below hb1 (by simp)
  clear hi1
  go_wp2_with fail
  refine HT.out.mono ?_
  rintro e w2 ⟨h1, h2, hb2⟩
  have h1' := h1 Hf.out
  rw [He.out] at h1'
  subst h1'
  have hbk2 := hbk.below hb2 hbk.lt
  have hlt2 := hbk2.lt
  have d0 : w2.cell? ⟨w.heap.size, 0, none⟩ = some (.bool false) := hbk2.cell 0
  have d1 : w2.cell? ⟨w.heap.size, 1, none⟩ = some (.string ⟨#[]⟩) := hbk2.cell 1
  have f0 := hbk2.frozen 0
  have f1 := hbk2.frozen 1
  have hb12 : Below w.heap.size w w2 := hb0.trans ((hb1.mono (by simp)).trans (hb2.mono (by have := hb1.size; simp at this; omega)))
  clear hbk hbk2 hb1 hb2 h1 h2
  go_wp2_with fail
  refine bodyPost_ret (v := .agg #[.bool sn, .string bn]) (by simp [results, Try.results41, go_sem, d0, d1, hlt2]) rfl ⟨rfl, ?_⟩
  exact ((hb12.setCell (Nat.le_refl _) _).setCell (Nat.le_refl _) _).alloc (by simp; omega) _
end Go.Proofs.Ytpnginnjbdedbaa

/- The reference's made: a number of a sign and digits. -/
namespace Go.Proofs.Ytpnginnjbdedbaa
open Go.RowKit
open Wh
set_option linter.unusedSimpArgs false

theorem enc_sgn {neg : Bool} {m : Nat} (h : 0 < m) : enc (sgn neg m) = .agg #[.bool neg, .string ⟨(bys m).toArray⟩] := by
  unfold enc
  rw [sgn_neg, sgn_abs, decide_eq_true h, Bool.and_true]
theorem enc_nil {neg : Bool} : enc (sgn neg 0) = .agg #[.bool false, .string ⟨#[]⟩] := by
  unfold enc
  rw [sgn_neg, sgn_abs, bys_zero]
  simp
theorem byte_top {m n : Nat} (hm : 0 < m) (hn : n + 1 = (bl m + 7) / 8) : 0 < m / 256 ^ n % 256 := by
  have h := bytes_len m
  have h2 := (h.2 hm).1
  rw [← hn, Nat.add_sub_cancel] at h2
  have h1 := h.1
  rw [← hn, Nat.pow_succ] at h1
  have h3 : m / 256 ^ n < 256 := Nat.div_lt_of_lt_mul (by rw [Nat.mul_comm] at h1; rw [Nat.mul_comm]; omega)
  have h4 : 0 < m / 256 ^ n := Nat.div_pos h2 (Nat.pow_pos (by decide))
  rw [Nat.mod_eq_of_lt h3]
  exact h4
theorem byte_over {m n : Nat} (hn : (bl m + 7) / 8 ≤ n) : m / 256 ^ n % 256 = 0 := by
  rw [Nat.div_eq_of_lt (Nat.lt_of_lt_of_le (bytes_len m).1 (Nat.pow_le_pow_right (by decide) hn))]
theorem words_bytes {m : Nat} (hm : 0 < m) : (bl m + 7) / 8 ≤ 4 * (wds m).length ∧ 0 < (bl m + 7) / 8 := by
  have := bl_len m
  have := ((bytes_len m).2 hm).2
  omega

set_option maxRecDepth 100000 in
set_option maxHeartbeats 4000000 in
theorem made_zero {w : World} {B n c : Nat} {A : Option Addr} {l : List Nat} {neg : Bool} (h : ReadsW w B A l) (hB : B ≤ w.heap.size) (hn : n = l.length) (hc : n ≤ c) (hcl : c ≤ 9223372036854775807) (hw : Wd l) (h0 : val l = 0) :
    Calls Try.prog 68 #[.bool neg, .slice A n c] w (Told w (enc (sgn neg (val l)))) := by
  have HC := Lib.hid (rcut_any (h.alloc hB (.cells #[.bool false, .string ⟨#[]⟩] 26)) hn hc hcl hw)
  rw [h0, wds_zero] at HC
  rw [h0, enc_nil]
  clear h hn hc hcl hw h0 hB
  go_enter Try.func68, Try.ntmps68
  go_wp2_with fail
  refine HC.out.mono ?_
  rintro e w1 ⟨m, rfl, hm, rfl⟩
  obtain rfl : m = 0 := hm
  clear HC
  go_wp2_with fail
  refine bodyPost_ret (v := .agg #[.bool false, .string ⟨#[]⟩]) (by simp [results, Try.results68, go_sem]) rfl ?_
  exact ⟨rfl, (Below.refl _ _).alloc (Nat.le_refl _) _⟩
set_option maxRecDepth 100000 in
set_option maxHeartbeats 8000000 in
theorem made_pos {w : World} {B n c M : Nat} {A : Option Addr} {l : List Nat} {neg : Bool} (h : ReadsW w B A l) (hB : B ≤ w.heap.size) (hn : n = l.length) (hc : n ≤ c) (hcl : c ≤ 9223372036854775807) (hnl : n ≤ 1000000000) (hw : Wd l) (hM : val l = M) (h0 : 0 < M) :
    Calls Try.prog 68 #[.bool neg, .slice A n c] w (Told w (enc (sgn neg M))) := by
  have HC := Lib.hid (rcut_any (h.alloc hB (.cells #[.bool false, .string ⟨#[]⟩] 26)) hn hc hcl hw)
  have hr : ReadsW w B A (wds M) := by rw [← hM]; exact reads_cut h hw
  have hwl : (wds M).length ≤ 1000000000 := by rw [← hM]; have := (wds_take l.length l rfl hw).2; omega
  rw [hM] at HC
  rw [enc_sgn h0]
  obtain ⟨nb, hnb⟩ : ∃ nb, nb = (bl M + 7) / 8 := ⟨_, rfl⟩
  have hwb := words_bytes h0
  rw [← hnb] at hwb
  obtain ⟨hwb1, hwb2⟩ := hwb
  have Hnb := Lib.hid (And.intro hnb h0)
  have Hr := Lib.hid hr
  clear h hn hc hcl hw hM hnb h0 hr hnl
  go_enter Try.func68, Try.ntmps68
  go_wp2_with fail
  refine HC.out.mono ?_
  rintro e w1 ⟨m, rfl, hm, rfl⟩
  have Hm := Lib.hid hm
  have hm0 : 0 < m := by omega
  have hml : m ≤ 1000000000 := by omega
  have hnbm : nb ≤ 4 * m := by omega
  clear HC hm hwl hwb1
  have hd0 : ¬ m = 0 := by omega
  have hd1 : ((m : Int) == 0) = false := by simp; omega
  go_wp2_with fail
  go_loopg [5] (4 * m) (fun kk iv wr => ∃ k : Nat, iv = .int .i64 (k : Int) ∧ kk = k ∧ nb ≤ k ∧ k ≤ 4 * m ∧ wr = (w.alloc (.cells #[.bool false, .string ⟨#[]⟩] 26)))
  case atStart => exact ⟨4 * m, by simp, rfl, by omega, by omega, rfl⟩
  case round =>
    obtain ⟨k, rfl, hkk, hk1, hk2, rfl⟩ := hrel
    have Hk := Lib.hid hkk
    clear hkk
    obtain ⟨j, rfl⟩ : ∃ j, k = j + 1 := ⟨k - 1, by omega⟩
    have hj4 : j / 4 < (wds M).length := by have := Hm.out; omega
    obtain ⟨ad, rfl, hb1, c1⟩ := (Hr.out.alloc hB (.cells #[.bool false, .string ⟨#[]⟩] 26)).at_ hj4
    rw [← at_get] at c1
    have hbw := byte_word (m := M) (i := j)
    have hu := at_lt (wd_w M) (j / 4)
    generalize at_ (wds M) (j / 4) = u at *
    have hjn : (j : Int) / 4 < (m : Int) := by omega
    have hj0 : (0 : Int) < (j : Int) + 1 := by omega
    have hdj : decide ((0 : Int) < (j : Int) + 1) = true := decide_eq_true hj0
    have e1 : ((u : Int) / 2 ^ (8 * (j % 4))).tmod 256 = ((M / 256 ^ j % 256 : Nat) : Int) := by
      rw [Int.tmod_eq_emod_of_nonneg (Int.ediv_nonneg (Int.natCast_nonneg _) (Int.le_of_lt (Int.pow_pos (by decide)))), hbw, pow256, Nat.mul_comm 8, Int.natCast_emod, Int.natCast_ediv, Int.natCast_pow]; rfl
    by_cases hkn : j + 1 = nb
    · have hne := byte_top (m := M) (n := j) Hnb.out.2 (by rw [hkn]; exact Hnb.out.1)
      have hq : (((u : Int) / 2 ^ (8 * (j % 4))).tmod 256 == 0) = false := by rw [e1]; exact beq_eq_false_iff_ne.2 (fun h => by have := Int.ofNat.inj h; omega)
      have Hkn := Lib.hid hkn
      have hmk : ∀ w : World, (Instr.makeSlice 107 (.int .i64 ((j : Int) + 1)) (.int .i64 ((j : Int) + 1))).run Try.prog w = .ok (.slice (some ⟨w.heap.size, 0, none⟩) nb nb) (w.alloc (.cells (bcells (List.replicate nb 0)) 5)) := fun w => by
        have := run_makeB nb (by omega) w
        rw [← this, ← hkn]
        rfl
      clear hbw e1 hne hkn hj4
      go_wp2_with fail
      rw [show ((j + 1 : Nat) : Int) = (nb : Int) by rw [Hkn.out]]
      clear hmk hq hdj hj0 hjn c1 hu
      obtain ⟨W1, hW1⟩ : ∃ W1, W1 = w.alloc (.cells #[.bool false, .string ⟨#[]⟩] 26) := ⟨_, rfl⟩
      have hbW : Below w.heap.size w W1 := by rw [hW1]; exact (Below.refl _ _).alloc (Nat.le_refl _) _
      have hres : Blk W1 w.heap.size 26 #[.bool false, .string ⟨#[]⟩] := by rw [hW1]; exact Blk.new _ _ _
      have hrW : ReadsW W1 B (some ad) (wds M) := by rw [hW1]; exact Hr.out.alloc hB _
      have HrW := Lib.hid hrW
      have hBW : W1.heap.size = w.heap.size + 1 := by rw [hW1, World.size_alloc]
      have HBW := Lib.hid hBW
      clear hBW
      rw [← hW1]
      clear hW1 hrW
      go_loopg [7] nb (fun k iv wr => ∃ (i : Nat) (L : List UInt8), iv = .int .i64 (i : Int) ∧ k = nb - i ∧ i ≤ nb ∧ Blk wr (w.heap.size + 1) 5 (bcells L) ∧ Below (w.heap.size + 1) W1 wr ∧
        Hid (L.length = nb ∧ bval (L.drop (nb - i)) = M % 256 ^ i))
      case atStart => exact ⟨0, List.replicate nb 0, rfl, by omega, by omega, by rw [← HBW.out]; exact Blk.new _ _ _, (Below.refl _ _).alloc (by rw [HBW.out]; exact Nat.le_refl _) _, by simp, by rw [List.drop_of_length_le (by simp), Nat.pow_zero, Nat.mod_one]; rfl⟩
      case round =>
        obtain ⟨i, L, rfl, hk, hi, hblk, hbel, hL⟩ := hrel
        have Hk2 := Lib.hid hk
        clear hk
        by_cases hin : i < nb
        · have hi4 : i / 4 < (wds M).length := by have := Hm.out; omega
          obtain ⟨ad2, e2, hb2, c1⟩ := (HrW.out.below (hbel.mono (by omega))).at_ hi4
          injection e2 with e2
          subst e2
          rw [← at_get] at c1
          have hbw := byte_word (m := M) (i := i)
          have hu := at_lt (wd_w M) (i / 4)
          have hni : (i : Int) / 4 < (m : Int) := by omega
          have hjL : nb - 1 - i < L.length := by have := hL.out.1; omega
          have hout : wr.cell? ⟨w.heap.size + 1, nb - 1 - i, none⟩ = some (.int .u8 ((L[nb - 1 - i].toNat : Nat) : Int)) := by rw [hblk.cell, bcells_get, List.getElem?_eq_getElem hjL]; rfl
          have hfz := hblk.frozen (nb - 1 - i)
          generalize at_ (wds M) (i / 4) = u2 at *
          generalize L[nb - 1 - i].toNat = y0 at *
          have hii : (i : Int) < (nb : Int) := by omega
          have Hbw := Lib.hid hbw
          clear hbw hi4 hjL
          go_wp2_with fail
          obtain ⟨X, hX⟩ : ∃ X : UInt8, X = UInt8.ofNat (M / 256 ^ i % 256) := ⟨_, rfl⟩
          have hXn : X.toNat = M / 256 ^ i % 256 := by rw [hX, byte_nat]
          have hval : (u2 : Int) / 2 ^ (8 * (i % 4)) % 256 = (X.toNat : Int) := by
            rw [hXn, Hbw.out, pow256, Nat.mul_comm 8, Int.natCast_emod, Int.natCast_ediv, Int.natCast_pow]; rfl
          rw [hval]
          go_roundg (nb - (i + 1))
          case measure => have := Hk2.out; omega
          case rel =>
            refine ⟨i + 1, L.set (nb - 1 - i) X, rfl, rfl, by omega, ?_, hbel.setCell (by show w.heap.size + 1 ≤ w.heap.size + 1; omega) _, by rw [List.length_set]; exact hL.out.1, ?_⟩
            · have := hblk.set_ (nb - 1 - i) (.int .u8 (X.toNat : Int))
              rwa [bcells_set] at this
            · have hjl : nb - (i + 1) < (L.set (nb - 1 - i) X).length := by rw [List.length_set, hL.out.1]; omega
              rw [bval_drop hjl, List.length_set, hL.out.1]
              have e1 : (L.set (nb - 1 - i) X)[nb - (i + 1)] = X := by
                simp only [show nb - (i + 1) = nb - 1 - i by omega, List.getElem_set_self]
              rw [e1, show nb - (i + 1) + 1 = nb - i by omega, List.drop_set_of_lt (by omega), hL.out.2, Nat.mod_pow_succ, hXn, show nb - (nb - i) = i by omega]
              rw [Nat.mul_comm, Nat.add_comm]
        · have hi' : i = nb := by omega
          have hii : (nb : Int) ≤ (i : Int) := by omega
          have hv := hL.out.2
          rw [show nb - i = 0 by omega, List.drop_zero, hi', Nat.mod_eq_of_lt (by rw [Hnb.out.1]; exact (bytes_len M).1)] at hv
          have hb := bys_of (L := L) (m := M) (by rw [hL.out.1, Hnb.out.1]) hv
          have Hb := Lib.hid hb
          have hLn := hL.out.1
          have hstr := run_str (w := wr) (c := nb) (A := some ⟨w.heap.size + 1, 0, none⟩) (B := w.heap.size + 2) (l := L) hLn.symm (readsb_blk hblk (by omega))
          have hr2 := hres.below hbel (by omega)
          have c0 := hr2.cell 0
          have c1 := hr2.cell 1
          have f0 := hr2.frozen 0
          have f1 := hr2.frozen 1
          have hBel2 : Below w.heap.size w wr := hbW.trans (hbel.mono (by omega))
          clear hv hb hi' hLn hin
          go_wp2_with fail
          have hr3 := (hr2.set_ 0 (.bool neg)).set_ 1 (.string ⟨L.toArray⟩)
          have d0 := hr3.cell 0
          have d1 := hr3.cell 1
          simp at d0 d1
          refine bodyPost_ret (v := .agg #[.bool neg, .string ⟨L.toArray⟩]) (by simp [results, Try.results68, go_sem, d0, d1]) rfl ?_
          exact ⟨by rw [Hb.out], (hBel2.setCell (Nat.le_refl _) _).setCell (Nat.le_refl _) _⟩
    · have hne := byte_over (m := M) (n := j) (by rw [← Hnb.out.1]; omega)
      have hq : (((u : Int) / 2 ^ (8 * (j % 4))).tmod 256 == 0) = true := by rw [e1, hne]; rfl
      clear hbw e1 hne hj4
      go_wp2_with fail
      go_roundg j
      case measure => have := Hk.out; omega
      case rel => exact ⟨j, rfl, rfl, by omega, by omega, rfl⟩
/-- the number of a sign and digits -/
theorem made_any {w : World} {B n c : Nat} {A : Option Addr} {l : List Nat} {neg : Bool} (h : ReadsW w B A l) (hB : B ≤ w.heap.size) (hn : n = l.length) (hc : n ≤ c) (hcl : c ≤ 9223372036854775807) (hnl : n ≤ 1000000000) (hw : Wd l) :
    Calls Try.prog 68 #[.bool neg, .slice A n c] w (Told w (enc (sgn neg (val l)))) := by
  rcases Nat.eq_zero_or_pos (val l) with h0 | h0
  · exact made_zero h hB hn hc hcl hw h0
  · exact made_pos h hB hn hc hcl hnl hw rfl h0
end Go.Proofs.Ytpnginnjbdedbaa

/- whole.two, Add, Sub, Mul (printed by gen_two.py). -/
namespace Go.Proofs.Ytpnginnjbdedbaa
open Go.RowKit
open Wh
set_option linter.unusedSimpArgs false

theorem blk_pair {w : World} (a b : Bool × ByteArray) : ReadsWh (w.alloc (.cells #[.bool a.1, .string a.2, .bool b.1, .string b.2] 26)) (w.heap.size + 1) (some ⟨w.heap.size, 0, none⟩) [a, b] := by
  refine ⟨rfl, fun _ => ⟨_, rfl, Nat.lt_succ_self _, fun j u hu => ?_⟩⟩
  rw [Addr.add_lit, Nat.zero_add, (Blk.new w 26 #[.bool a.1, .string a.2, .bool b.1, .string b.2]).cell j]
  rw [← hu]
  match j with
  | 0 => rfl
  | 1 => rfl
  | 2 => rfl
  | 3 => rfl
  | _ + 4 => rfl
/-- what is answered: a number, or it is too great, or it is refused -/
def Ans (w : World) (ok : Prop) (z : Int) (e : Ending) (w' : World) : Prop := (ok → fits z → e = .returned (.tuple #[enc z, .int .i64 0])) ∧ (ok → ¬ fits z → e = .returned (.tuple #[none_, .int .i64 4])) ∧ (¬ ok → e = .returned (.tuple #[none_, .int .i64 2])) ∧ Below w.heap.size w w'
def May2 (a b : Bool × ByteArray) : Prop := MayL a.1 a.2.data.toList ∧ MayL b.1 b.2.data.toList
theorem may2_all {a b : Bool × ByteArray} : AllMay [a, b] ↔ May2 a b := by
  unfold AllMay May2
  simp
theorem ints_two {w : World} {gs : List Nat} {x y : Int} (h : Ints w gs [x, y]) : ∃ g1 g2, gs = [g1, g2] ∧ IntB w g1 x ∧ IntB w g2 y ∧ g1 ≠ g2 := by
  match gs, h with
  | [g1, g2], ⟨h1, h2, h3, _, _⟩ => exact ⟨g1, g2, rfl, h1, h3, by simpa using h2⟩
  | [], h => exact h.elim
  | [_], ⟨_, _, h⟩ => exact h.elim
  | _ :: _ :: _ :: _, ⟨_, _, _, _, h⟩ => exact h.elim
theorem len_num {a : Bool × ByteArray} (h : MayL a.1 a.2.data.toList) : (wds (num a).natAbs).length ≤ 5000 := by
  unfold num
  rw [sgn_abs]
  exact len_mag h.1
/-- what an operation of numbers does -/
def Does (F : Nat) (op : Int → Int → Int) : Prop := ∀ (w : World) (g gx gy : Nat) (x y : Int), IntS w g → IntB w gx x → IntB w gy y → (wds x.natAbs).length ≤ 5000 → (wds y.natAbs).length ≤ 5000 →
  Calls Try.prog F #[.pointer (some ⟨g, 0, none⟩), .pointer (some ⟨gx, 0, none⟩), .pointer (some ⟨gy, 0, none⟩)] w (Puts w g (op x y))

set_option maxRecDepth 100000 in
set_option maxHeartbeats 4000000 in
theorem two63_any {w : World} {na nb : Bool} {sa sb : ByteArray} {op : Int → Int → Int} (hF : Does 63 op) (hop : ∀ x y : Int, (wds x.natAbs).length ≤ 5000 → (wds y.natAbs).length ≤ 5000 → (wds (op x y).natAbs).length ≤ 100000) :
    Calls Try.prog 80 #[.agg #[.bool na, .string sa], .agg #[.bool nb, .string sb], .func (.func 63) #[] #[]] w (Ans w (May2 (na, sa) (nb, sb)) (op (num (na, sa)) (num (nb, sb)))) := by
  have hb1 := new_below w (.cells #[.bool na, .string sa] 26)
  have hb2 := hb1.alloc (by simp) (.cells #[.bool nb, .string sb] 26)
  have hb3 := hb2.alloc (by simp; omega) (.cells #[.bool false, .string ⟨#[]⟩] 26)
  have hb4 := hb3.alloc (by simp; omega) (.cells #[.bool na, .string sa, .bool nb, .string sb] 26)
  obtain ⟨W3, hW3⟩ : ∃ W3, W3 = ((w.alloc (.cells #[.bool na, .string sa] 26)).alloc (.cells #[.bool nb, .string sb] 26)).alloc (.cells #[.bool false, .string ⟨#[]⟩] 26) := ⟨_, rfl⟩
  have hsz3 : W3.heap.size = w.heap.size + 1 + 1 + 1 := by rw [hW3]; simp
  have hO := ofs_any (c := 2) (n := 2) (blk_pair (w := W3) (na, sa) (nb, sb)) (by simp) rfl (by omega)
  have hbk := (Blk.new ((w.alloc (.cells #[.bool na, .string sa] 26)).alloc (.cells #[.bool nb, .string sb] 26)) 26 #[.bool false, .string ⟨#[]⟩])
  rw [← hW3] at hb4 hbk
  have hbk2 : Blk (W3.alloc (.cells #[.bool na, .string sa, .bool nb, .string sb] 26)) (w.heap.size + 1 + 1) 26 #[.bool false, .string ⟨#[]⟩] := by
    have := hbk.alloc (.cells #[.bool na, .string sa, .bool nb, .string sb] 26)
    simpa using this
  rw [hsz3] at hO
  have hsz4 : (W3.alloc (.cells #[.bool na, .string sa, .bool nb, .string sb] 26)).heap.size = w.heap.size + 1 + 1 + 1 + 1 := by rw [World.size_alloc, hsz3]
  rw [hW3] at hO hb4 hbk2 hsz4
  have HO := Lib.hid hO
  have Hb := Lib.hid (And.intro hb4 (And.intro hbk2 hsz4))
  have HF := Lib.hid (And.intro hF hop)
  clear hO hb1 hb2 hb3 hb4 hW3 hsz3 hbk hbk2 hsz4 hF hop
  by_cases hm : May2 (na, sa) (nb, sb)
  · obtain ⟨z, hz⟩ : ∃ z, z = op (num (na, sa)) (num (nb, sb)) := ⟨_, rfl⟩
    rw [← hz]
    have Hm := Lib.hid (And.intro hm hz)
    obtain ⟨sn, bn, cd, hres⟩ : ∃ (sn : Bool) (bn : ByteArray) (cd : Int), (fits z → enc z = .agg #[.bool sn, .string bn] ∧ cd = 0) ∧ (¬ fits z → none_ = .agg #[.bool sn, .string bn] ∧ cd = 4) := by
      by_cases hf : fits z
      · exact ⟨_, _, 0, fun _ => ⟨rfl, rfl⟩, fun h => absurd hf h⟩
      · exact ⟨_, _, 4, fun h => absurd h hf, fun _ => ⟨rfl, rfl⟩⟩
    have hAns : Ans w (May2 (na, sa) (nb, sb)) z (.returned (.tuple #[.agg #[.bool sn, .string bn], .int .i64 cd])) = Ans w (May2 (na, sa) (nb, sb)) z (.returned (.tuple #[.agg #[.bool sn, .string bn], .int .i64 cd])) := rfl
    have Hres := Lib.hid hres
    clear hz hm hAns hres
    go_enter Try.func80, Try.ntmps80
    go_wp2_with fail
    refine HO.out.mono ?_
    rintro e w5 ⟨h1, h2⟩
    obtain ⟨A5, n5, c5, gs, rfl, hn5, hr5, hi5, hb5, hge⟩ := h1 (may2_all.2 Hm.out.1)
    obtain ⟨g1, g2, rfl, hx, hy, hne⟩ := ints_two hi5
    obtain ⟨ad, rfl, hadb, p0⟩ := hr5.at_ (k := 0) (by simp)
    obtain ⟨ad', e', _, p1⟩ := hr5.at_ (k := 1) (by simp)
    injection e' with e'
    subst e'
    rw [Addr.add_zero'] at p0
    rw [add_pos (by decide)] at p1
    have p0' : w5.cell? ad = some (.pointer (some ⟨g1, 0, none⟩)) := p0
    have p1' : w5.cell? ⟨ad.block, ad.off + 1, none⟩ = some (.pointer (some ⟨g2, 0, none⟩)) := p1
    obtain rfl : n5 = 2 := hn5.out.1
    have hblk5 := Hb.out.2.1.below hb5 (by rw [Hb.out.2.2]; omega)
    have hb05 := Hb.out.1.trans (hb5.mono (by rw [Hb.out.2.2]; omega))
    have hsz5 : w.heap.size + 1 + 1 + 1 + 1 ≤ w5.heap.size := by have := hb5.size; rw [Hb.out.2.2] at this; exact this
    have H5 := Lib.hid (And.intro hb05 (And.intro hx (And.intro hy hblk5)))
    clear h1 h2 hr5 hi5 hge hb5 p0 p1 hne hb05 hx hy hblk5
    go_wp2_with fail
    have hba : Below w5.heap.size w5 (w5.drew.alloc (.cells #[.bool false, .slice none 0 0] 82)) := (Below.refl _ _).drew.alloc (Nat.le_refl _) _
    have hxa := H5.out.2.1.below hba
    have hya := H5.out.2.2.1.below hba
    have HC := Lib.hid (HF.out.1 _ w5.heap.size g1 g2 _ _ (IntB.zero w5.drew).slot hxa hya (len_num Hm.out.1.1) (len_num Hm.out.1.2))
    have hcell : ∀ w' : World, Below w5.heap.size w5 w' → w'.cell? ad = some (.pointer (some ⟨g1, 0, none⟩)) ∧ w'.cell? ⟨ad.block, ad.off + 1, none⟩ = some (.pointer (some ⟨g2, 0, none⟩)) := fun w' hb => ⟨(hb.cell hadb).trans p0', (hb.cell (p := ⟨ad.block, ad.off + 1, none⟩) hadb).trans p1'⟩
    have hla := hba.size
    have Hba := Lib.hid hba
    have Hcell := Lib.hid hcell
    clear hcell hba
    refine wp_region_noPanic ?_
    refine wp_region_HK (fun w' => w'.cell? ad = some (.pointer (some ⟨g1, 0, none⟩)) ∧ w'.cell? ⟨ad.block, ad.off + 1, none⟩ = some (.pointer (some ⟨g2, 0, none⟩))) 12 (by kernel_rfl) ⟨p0', p1'⟩ (fun hHeld => ?_)
    refine wpHK_take (i := 0) (oi := Oper.mk (some 20) _ _ _ _ _) (v := ?_) rfl (by kernel_rfl) (by kernel_rfl) (by kernel_rfl) (by kernel_rfl) (fun _ _ _ h => h) (Or.inl ⟨by rfl, ?_⟩) (by assumption) ?_
    rotate_left
    · (intro w' hSw; (try dsimp only at hSw); (obtain ⟨s1, s2⟩ := hSw); go_simp; try with_reducible rfl)
    try simp only [Act.put, List.setIfInBounds_toArray, List.set_cons_zero, List.set_cons_succ]
    refine wpHK_take (i := 2) (oi := Oper.mk (some 22) _ _ _ _ _) (v := ?_) rfl (by kernel_rfl) (by kernel_rfl) (by kernel_rfl) (by kernel_rfl) (fun _ _ _ h => h) (Or.inl ⟨by rfl, ?_⟩) (by assumption) ?_
    rotate_left
    · (intro w' hSw; (try dsimp only at hSw); (obtain ⟨s1, s2⟩ := hSw); go_simp; try with_reducible rfl)
    try simp only [Act.put, List.setIfInBounds_toArray, List.set_cons_zero, List.set_cons_succ]
    refine wpHK_take (i := 3) (oi := Oper.mk (some 23) _ _ _ _ _) (v := ?_) rfl (by kernel_rfl) (by kernel_rfl) (by kernel_rfl) (by kernel_rfl) (fun _ _ _ h => h) (Or.inl ⟨by rfl, ?_⟩) (by assumption) ?_
    rotate_left
    · (intro w' hSw; (try dsimp only at hSw); (obtain ⟨s1, s2⟩ := hSw); go_simp; try with_reducible rfl)
    try simp only [Act.put, List.setIfInBounds_toArray, List.set_cons_zero, List.set_cons_succ]
    refine wpHK_take (i := 4) (oi := Oper.mk (some 24) _ _ _ _ _) (v := ?_) rfl (by kernel_rfl) (by kernel_rfl) (by kernel_rfl) (by kernel_rfl) (fun _ _ _ h => h) (Or.inl ⟨by rfl, ?_⟩) (by assumption) ?_
    rotate_left
    · (intro w' hSw; (try dsimp only at hSw); (obtain ⟨s1, s2⟩ := hSw); go_simp; try with_reducible rfl)
    try simp only [Act.put, List.setIfInBounds_toArray, List.set_cons_zero, List.set_cons_succ]
    refine wpHK_take (i := 5) (oi := Oper.mk (some 25) _ _ _ _ _) (v := ?_) rfl (by kernel_rfl) (by kernel_rfl) (by kernel_rfl) (by kernel_rfl) (fun _ _ _ h => h) (Or.inl ⟨by rfl, ?_⟩) (by assumption) ?_
    rotate_left
    · (intro w' hSw; (try dsimp only at hSw); (obtain ⟨s1, s2⟩ := hSw); go_simp; try with_reducible rfl)
    try simp only [Act.put, List.setIfInBounds_toArray, List.set_cons_zero, List.set_cons_succ]
    refine wpHK_take (i := 6) (oi := Oper.mk (some 26) _ _ _ _ _) (v := ?_) rfl (by kernel_rfl) (by kernel_rfl) (by kernel_rfl) (by kernel_rfl) (fun _ _ _ h => h) (Or.inl ⟨by rfl, ?_⟩) (by assumption) ?_
    rotate_left
    · (intro w' hSw; (try dsimp only at hSw); (obtain ⟨s1, s2⟩ := hSw); go_simp; try with_reducible rfl)
    try simp only [Act.put, List.setIfInBounds_toArray, List.set_cons_zero, List.set_cons_succ]
    refine wpHK_take (i := 7) (oi := Oper.mk (some 27) _ _ _ _ _) (v := ?_) rfl (by kernel_rfl) (by kernel_rfl) (by kernel_rfl) (by kernel_rfl) (fun _ _ _ h => h) (Or.inl ⟨by rfl, ?_⟩) (by assumption) ?_
    rotate_left
    · (intro w' hSw; (try dsimp only at hSw); (obtain ⟨s1, s2⟩ := hSw); go_simp; try with_reducible rfl)
    try simp only [Act.put, List.setIfInBounds_toArray, List.set_cons_zero, List.set_cons_succ]
    refine wpHK_one (j := 1) (o := Oper.mk (some 21) _ _ _ _ _) rfl (by kernel_rfl) (fun K hK => ?_)
    go_simp
    try simp only []
    refine hK.out _ _ (Hcell.out _ Hba.out) (fun _ => ?_)
    clear hK K hHeld
    have hHeld := (Hcell.out _ Hba.out)
    try simp only [Act.put, List.setIfInBounds_toArray, List.set_cons_zero, List.set_cons_succ]
    refine wpHK_one (j := 8) (o := Oper.mk (some 28) _ _ _ _ _) rfl (by kernel_rfl) (fun K hK => ?_)
    go_simp
    refine HC.out.mono ?_
    rintro e w6 ⟨rfl, hi6, hg6⟩
    try simp only []
    rw [← Hm.out.2] at hi6
    have hb56 := up_row Hba.out hg6 hla (Nat.le_refl _)
    have HT := Lib.hid (told_any hi6 (by rw [Hm.out.2]; exact Nat.le_trans (HF.out.2 _ _ (len_num Hm.out.1.1) (len_num Hm.out.1.2)) (by omega)))
    refine hK.out _ _ (Hcell.out _ hb56) (fun _ => ?_)
    clear hK K hHeld
    have hHeld := (Hcell.out _ hb56)
    try simp only [Act.put, List.setIfInBounds_toArray, List.set_cons_zero, List.set_cons_succ]
    refine wpHK_one (j := 9) (o := Oper.mk (some 29) _ _ _ _ _) rfl (by kernel_rfl) (fun K hK => ?_)
    go_simp
    refine HT.out.mono ?_
    rintro e w7 ⟨t1, t2, hb7⟩
    have hb57 := hb56.trans (hb7.mono hb56.size)
    have he : e = .returned (.tuple #[.agg #[.bool sn, .string bn], .int .i64 cd]) := by
      by_cases hf : fits z
      · rw [t1 hf, (Hres.out.1 hf).1, (Hres.out.1 hf).2]
      · rw [t2 hf, (Hres.out.2 hf).1, (Hres.out.2 hf).2]
    subst he
    have hblk7 := H5.out.2.2.2.below hb57 (by omega)
    have d0 : w7.cell? ⟨w.heap.size + 1 + 1, 0, none⟩ = some (.bool false) := hblk7.cell 0
    have d1 : w7.cell? ⟨w.heap.size + 1 + 1, 1, none⟩ = some (.string ⟨#[]⟩) := hblk7.cell 1
    have f0 := hblk7.frozen 0
    have f1 := hblk7.frozen 1
    have Hb57 := Lib.hid hb57
    clear t1 t2 hb7 hblk7
    try simp only []
    refine hK.out _ _ (Hcell.out _ Hb57.out) (fun _ => ?_)
    clear hK K hHeld
    have hHeld := (Hcell.out _ Hb57.out)
    try simp only [Act.put, List.setIfInBounds_toArray, List.set_cons_zero, List.set_cons_succ]
    refine wpHK_take (i := 10) (oi := Oper.mk (some 30) _ _ _ _ _) (v := ?_) rfl (by kernel_rfl) (by kernel_rfl) (by kernel_rfl) (by kernel_rfl) (fun _ _ _ h => h) (Or.inl ⟨by rfl, ?_⟩) (by assumption) ?_
    rotate_left
    · (intro w' hSw; (try dsimp only at hSw); (obtain ⟨s1, s2⟩ := hSw); go_simp; try with_reducible rfl)
    try simp only [Act.put, List.setIfInBounds_toArray, List.set_cons_zero, List.set_cons_succ]
    refine wpHK_take (i := 11) (oi := Oper.mk (some 31) _ _ _ _ _) (v := ?_) rfl (by kernel_rfl) (by kernel_rfl) (by kernel_rfl) (by kernel_rfl) (fun _ _ _ h => h) (Or.inl ⟨by rfl, ?_⟩) (by assumption) ?_
    rotate_left
    · (intro w' hSw; (try dsimp only at hSw); (obtain ⟨s1, s2⟩ := hSw); go_simp; try with_reducible rfl)
    try simp only [Act.put, List.setIfInBounds_toArray, List.set_cons_zero, List.set_cons_succ]
    refine wpHK_tail (j := 12) (o := Oper.mk (none) _ _ _ _ _) rfl (by kernel_rfl) (by decide) (fun K hK => ?_)
    go_simp
    refine hK.out _ _ ?_
    clear hK K
    try simp only [Act.put, List.setIfInBounds_toArray, List.set_cons_zero, List.set_cons_succ]
    refine wpHK_pure (i := 13) (oi := Oper.mk (some 7) _ _ _ _ _) (v := ?_) rfl (by kernel_rfl) (by kernel_rfl) (by kernel_rfl) (fun _ _ _ h => h) (Or.inl ⟨by rfl, ?_⟩) ?_
    rotate_left
    · (intro w' _; go_simp; try with_reducible rfl)
    try simp only [Act.put, List.setIfInBounds_toArray, List.set_cons_zero, List.set_cons_succ]
    refine wpHK_done (by kernel_rfl) ?_ _
    refine NoPanic.normal ?_
    go_wp2_with fail
    refine bodyPost_ret (v := .tuple #[.agg #[.bool sn, .string bn], .int .i64 cd]) (by simp [results, Try.results80, go_sem, d0, d1]) rfl ?_
    refine ⟨fun _ hf => by rw [(Hres.out.1 hf).1, (Hres.out.1 hf).2], fun _ hf => by rw [(Hres.out.2 hf).1, (Hres.out.2 hf).2], fun h => absurd Hm.out.1 h, ?_⟩
    exact ((H5.out.1.trans (Hb57.out.mono (by omega))).setCell (by show w.heap.size ≤ w.heap.size + 1 + 1; omega) _).setCell (by show w.heap.size ≤ w.heap.size + 1 + 1; omega) _
  · have Hm := Lib.hid hm
    clear hm
    go_enter Try.func80, Try.ntmps80
    go_wp2_with fail
    refine HO.out.mono ?_
    rintro e w5 ⟨h1, h2⟩
    obtain ⟨A5, n5, c5, rfl, hb5⟩ := h2 (fun h => Hm.out (may2_all.1 h))
    have hblk5 := Hb.out.2.1.below hb5 (by rw [Hb.out.2.2]; omega)
    have hb05 := Hb.out.1.trans (hb5.mono (by rw [Hb.out.2.2]; omega))
    have d0 : w5.cell? ⟨w.heap.size + 1 + 1, 0, none⟩ = some (.bool false) := hblk5.cell 0
    have d1 : w5.cell? ⟨w.heap.size + 1 + 1, 1, none⟩ = some (.string ⟨#[]⟩) := hblk5.cell 1
    have f0 := hblk5.frozen 0
    have f1 := hblk5.frozen 1
    clear h1 h2 hb5 hblk5
    go_wp2_with fail
    refine bodyPost_ret (v := .tuple #[.agg #[.bool false, .string ⟨#[]⟩], .int .i64 2]) (by simp [results, Try.results80, go_sem, d0, d1]) rfl ?_
    refine ⟨fun h => absurd h Hm.out, fun h => absurd h Hm.out, fun _ => rfl, ?_⟩
    exact (hb05.setCell (by show w.heap.size ≤ w.heap.size + 1 + 1; omega) _).setCell (by show w.heap.size ≤ w.heap.size + 1 + 1; omega) _
set_option maxRecDepth 100000 in
set_option maxHeartbeats 4000000 in
theorem two81_any {w : World} {na nb : Bool} {sa sb : ByteArray} {op : Int → Int → Int} (hF : Does 81 op) (hop : ∀ x y : Int, (wds x.natAbs).length ≤ 5000 → (wds y.natAbs).length ≤ 5000 → (wds (op x y).natAbs).length ≤ 100000) :
    Calls Try.prog 80 #[.agg #[.bool na, .string sa], .agg #[.bool nb, .string sb], .func (.func 81) #[] #[]] w (Ans w (May2 (na, sa) (nb, sb)) (op (num (na, sa)) (num (nb, sb)))) := by
  have hb1 := new_below w (.cells #[.bool na, .string sa] 26)
  have hb2 := hb1.alloc (by simp) (.cells #[.bool nb, .string sb] 26)
  have hb3 := hb2.alloc (by simp; omega) (.cells #[.bool false, .string ⟨#[]⟩] 26)
  have hb4 := hb3.alloc (by simp; omega) (.cells #[.bool na, .string sa, .bool nb, .string sb] 26)
  obtain ⟨W3, hW3⟩ : ∃ W3, W3 = ((w.alloc (.cells #[.bool na, .string sa] 26)).alloc (.cells #[.bool nb, .string sb] 26)).alloc (.cells #[.bool false, .string ⟨#[]⟩] 26) := ⟨_, rfl⟩
  have hsz3 : W3.heap.size = w.heap.size + 1 + 1 + 1 := by rw [hW3]; simp
  have hO := ofs_any (c := 2) (n := 2) (blk_pair (w := W3) (na, sa) (nb, sb)) (by simp) rfl (by omega)
  have hbk := (Blk.new ((w.alloc (.cells #[.bool na, .string sa] 26)).alloc (.cells #[.bool nb, .string sb] 26)) 26 #[.bool false, .string ⟨#[]⟩])
  rw [← hW3] at hb4 hbk
  have hbk2 : Blk (W3.alloc (.cells #[.bool na, .string sa, .bool nb, .string sb] 26)) (w.heap.size + 1 + 1) 26 #[.bool false, .string ⟨#[]⟩] := by
    have := hbk.alloc (.cells #[.bool na, .string sa, .bool nb, .string sb] 26)
    simpa using this
  rw [hsz3] at hO
  have hsz4 : (W3.alloc (.cells #[.bool na, .string sa, .bool nb, .string sb] 26)).heap.size = w.heap.size + 1 + 1 + 1 + 1 := by rw [World.size_alloc, hsz3]
  rw [hW3] at hO hb4 hbk2 hsz4
  have HO := Lib.hid hO
  have Hb := Lib.hid (And.intro hb4 (And.intro hbk2 hsz4))
  have HF := Lib.hid (And.intro hF hop)
  clear hO hb1 hb2 hb3 hb4 hW3 hsz3 hbk hbk2 hsz4 hF hop
  by_cases hm : May2 (na, sa) (nb, sb)
  · obtain ⟨z, hz⟩ : ∃ z, z = op (num (na, sa)) (num (nb, sb)) := ⟨_, rfl⟩
    rw [← hz]
    have Hm := Lib.hid (And.intro hm hz)
    obtain ⟨sn, bn, cd, hres⟩ : ∃ (sn : Bool) (bn : ByteArray) (cd : Int), (fits z → enc z = .agg #[.bool sn, .string bn] ∧ cd = 0) ∧ (¬ fits z → none_ = .agg #[.bool sn, .string bn] ∧ cd = 4) := by
      by_cases hf : fits z
      · exact ⟨_, _, 0, fun _ => ⟨rfl, rfl⟩, fun h => absurd hf h⟩
      · exact ⟨_, _, 4, fun h => absurd h hf, fun _ => ⟨rfl, rfl⟩⟩
    have hAns : Ans w (May2 (na, sa) (nb, sb)) z (.returned (.tuple #[.agg #[.bool sn, .string bn], .int .i64 cd])) = Ans w (May2 (na, sa) (nb, sb)) z (.returned (.tuple #[.agg #[.bool sn, .string bn], .int .i64 cd])) := rfl
    have Hres := Lib.hid hres
    clear hz hm hAns hres
    go_enter Try.func80, Try.ntmps80
    go_wp2_with fail
    refine HO.out.mono ?_
    rintro e w5 ⟨h1, h2⟩
    obtain ⟨A5, n5, c5, gs, rfl, hn5, hr5, hi5, hb5, hge⟩ := h1 (may2_all.2 Hm.out.1)
    obtain ⟨g1, g2, rfl, hx, hy, hne⟩ := ints_two hi5
    obtain ⟨ad, rfl, hadb, p0⟩ := hr5.at_ (k := 0) (by simp)
    obtain ⟨ad', e', _, p1⟩ := hr5.at_ (k := 1) (by simp)
    injection e' with e'
    subst e'
    rw [Addr.add_zero'] at p0
    rw [add_pos (by decide)] at p1
    have p0' : w5.cell? ad = some (.pointer (some ⟨g1, 0, none⟩)) := p0
    have p1' : w5.cell? ⟨ad.block, ad.off + 1, none⟩ = some (.pointer (some ⟨g2, 0, none⟩)) := p1
    obtain rfl : n5 = 2 := hn5.out.1
    have hblk5 := Hb.out.2.1.below hb5 (by rw [Hb.out.2.2]; omega)
    have hb05 := Hb.out.1.trans (hb5.mono (by rw [Hb.out.2.2]; omega))
    have hsz5 : w.heap.size + 1 + 1 + 1 + 1 ≤ w5.heap.size := by have := hb5.size; rw [Hb.out.2.2] at this; exact this
    have H5 := Lib.hid (And.intro hb05 (And.intro hx (And.intro hy hblk5)))
    clear h1 h2 hr5 hi5 hge hb5 p0 p1 hne hb05 hx hy hblk5
    go_wp2_with fail
    have hba : Below w5.heap.size w5 (w5.drew.alloc (.cells #[.bool false, .slice none 0 0] 82)) := (Below.refl _ _).drew.alloc (Nat.le_refl _) _
    have hxa := H5.out.2.1.below hba
    have hya := H5.out.2.2.1.below hba
    have HC := Lib.hid (HF.out.1 _ w5.heap.size g1 g2 _ _ (IntB.zero w5.drew).slot hxa hya (len_num Hm.out.1.1) (len_num Hm.out.1.2))
    have hcell : ∀ w' : World, Below w5.heap.size w5 w' → w'.cell? ad = some (.pointer (some ⟨g1, 0, none⟩)) ∧ w'.cell? ⟨ad.block, ad.off + 1, none⟩ = some (.pointer (some ⟨g2, 0, none⟩)) := fun w' hb => ⟨(hb.cell hadb).trans p0', (hb.cell (p := ⟨ad.block, ad.off + 1, none⟩) hadb).trans p1'⟩
    have hla := hba.size
    have Hba := Lib.hid hba
    have Hcell := Lib.hid hcell
    clear hcell hba
    refine wp_region_noPanic ?_
    refine wp_region_HK (fun w' => w'.cell? ad = some (.pointer (some ⟨g1, 0, none⟩)) ∧ w'.cell? ⟨ad.block, ad.off + 1, none⟩ = some (.pointer (some ⟨g2, 0, none⟩))) 12 (by kernel_rfl) ⟨p0', p1'⟩ (fun hHeld => ?_)
    refine wpHK_take (i := 0) (oi := Oper.mk (some 20) _ _ _ _ _) (v := ?_) rfl (by kernel_rfl) (by kernel_rfl) (by kernel_rfl) (by kernel_rfl) (fun _ _ _ h => h) (Or.inl ⟨by rfl, ?_⟩) (by assumption) ?_
    rotate_left
    · (intro w' hSw; (try dsimp only at hSw); (obtain ⟨s1, s2⟩ := hSw); go_simp; try with_reducible rfl)
    try simp only [Act.put, List.setIfInBounds_toArray, List.set_cons_zero, List.set_cons_succ]
    refine wpHK_take (i := 2) (oi := Oper.mk (some 22) _ _ _ _ _) (v := ?_) rfl (by kernel_rfl) (by kernel_rfl) (by kernel_rfl) (by kernel_rfl) (fun _ _ _ h => h) (Or.inl ⟨by rfl, ?_⟩) (by assumption) ?_
    rotate_left
    · (intro w' hSw; (try dsimp only at hSw); (obtain ⟨s1, s2⟩ := hSw); go_simp; try with_reducible rfl)
    try simp only [Act.put, List.setIfInBounds_toArray, List.set_cons_zero, List.set_cons_succ]
    refine wpHK_take (i := 3) (oi := Oper.mk (some 23) _ _ _ _ _) (v := ?_) rfl (by kernel_rfl) (by kernel_rfl) (by kernel_rfl) (by kernel_rfl) (fun _ _ _ h => h) (Or.inl ⟨by rfl, ?_⟩) (by assumption) ?_
    rotate_left
    · (intro w' hSw; (try dsimp only at hSw); (obtain ⟨s1, s2⟩ := hSw); go_simp; try with_reducible rfl)
    try simp only [Act.put, List.setIfInBounds_toArray, List.set_cons_zero, List.set_cons_succ]
    refine wpHK_take (i := 4) (oi := Oper.mk (some 24) _ _ _ _ _) (v := ?_) rfl (by kernel_rfl) (by kernel_rfl) (by kernel_rfl) (by kernel_rfl) (fun _ _ _ h => h) (Or.inl ⟨by rfl, ?_⟩) (by assumption) ?_
    rotate_left
    · (intro w' hSw; (try dsimp only at hSw); (obtain ⟨s1, s2⟩ := hSw); go_simp; try with_reducible rfl)
    try simp only [Act.put, List.setIfInBounds_toArray, List.set_cons_zero, List.set_cons_succ]
    refine wpHK_take (i := 5) (oi := Oper.mk (some 25) _ _ _ _ _) (v := ?_) rfl (by kernel_rfl) (by kernel_rfl) (by kernel_rfl) (by kernel_rfl) (fun _ _ _ h => h) (Or.inl ⟨by rfl, ?_⟩) (by assumption) ?_
    rotate_left
    · (intro w' hSw; (try dsimp only at hSw); (obtain ⟨s1, s2⟩ := hSw); go_simp; try with_reducible rfl)
    try simp only [Act.put, List.setIfInBounds_toArray, List.set_cons_zero, List.set_cons_succ]
    refine wpHK_take (i := 6) (oi := Oper.mk (some 26) _ _ _ _ _) (v := ?_) rfl (by kernel_rfl) (by kernel_rfl) (by kernel_rfl) (by kernel_rfl) (fun _ _ _ h => h) (Or.inl ⟨by rfl, ?_⟩) (by assumption) ?_
    rotate_left
    · (intro w' hSw; (try dsimp only at hSw); (obtain ⟨s1, s2⟩ := hSw); go_simp; try with_reducible rfl)
    try simp only [Act.put, List.setIfInBounds_toArray, List.set_cons_zero, List.set_cons_succ]
    refine wpHK_take (i := 7) (oi := Oper.mk (some 27) _ _ _ _ _) (v := ?_) rfl (by kernel_rfl) (by kernel_rfl) (by kernel_rfl) (by kernel_rfl) (fun _ _ _ h => h) (Or.inl ⟨by rfl, ?_⟩) (by assumption) ?_
    rotate_left
    · (intro w' hSw; (try dsimp only at hSw); (obtain ⟨s1, s2⟩ := hSw); go_simp; try with_reducible rfl)
    try simp only [Act.put, List.setIfInBounds_toArray, List.set_cons_zero, List.set_cons_succ]
    refine wpHK_one (j := 1) (o := Oper.mk (some 21) _ _ _ _ _) rfl (by kernel_rfl) (fun K hK => ?_)
    go_simp
    try simp only []
    refine hK.out _ _ (Hcell.out _ Hba.out) (fun _ => ?_)
    clear hK K hHeld
    have hHeld := (Hcell.out _ Hba.out)
    try simp only [Act.put, List.setIfInBounds_toArray, List.set_cons_zero, List.set_cons_succ]
    refine wpHK_one (j := 8) (o := Oper.mk (some 28) _ _ _ _ _) rfl (by kernel_rfl) (fun K hK => ?_)
    go_simp
    refine HC.out.mono ?_
    rintro e w6 ⟨rfl, hi6, hg6⟩
    try simp only []
    rw [← Hm.out.2] at hi6
    have hb56 := up_row Hba.out hg6 hla (Nat.le_refl _)
    have HT := Lib.hid (told_any hi6 (by rw [Hm.out.2]; exact Nat.le_trans (HF.out.2 _ _ (len_num Hm.out.1.1) (len_num Hm.out.1.2)) (by omega)))
    refine hK.out _ _ (Hcell.out _ hb56) (fun _ => ?_)
    clear hK K hHeld
    have hHeld := (Hcell.out _ hb56)
    try simp only [Act.put, List.setIfInBounds_toArray, List.set_cons_zero, List.set_cons_succ]
    refine wpHK_one (j := 9) (o := Oper.mk (some 29) _ _ _ _ _) rfl (by kernel_rfl) (fun K hK => ?_)
    go_simp
    refine HT.out.mono ?_
    rintro e w7 ⟨t1, t2, hb7⟩
    have hb57 := hb56.trans (hb7.mono hb56.size)
    have he : e = .returned (.tuple #[.agg #[.bool sn, .string bn], .int .i64 cd]) := by
      by_cases hf : fits z
      · rw [t1 hf, (Hres.out.1 hf).1, (Hres.out.1 hf).2]
      · rw [t2 hf, (Hres.out.2 hf).1, (Hres.out.2 hf).2]
    subst he
    have hblk7 := H5.out.2.2.2.below hb57 (by omega)
    have d0 : w7.cell? ⟨w.heap.size + 1 + 1, 0, none⟩ = some (.bool false) := hblk7.cell 0
    have d1 : w7.cell? ⟨w.heap.size + 1 + 1, 1, none⟩ = some (.string ⟨#[]⟩) := hblk7.cell 1
    have f0 := hblk7.frozen 0
    have f1 := hblk7.frozen 1
    have Hb57 := Lib.hid hb57
    clear t1 t2 hb7 hblk7
    try simp only []
    refine hK.out _ _ (Hcell.out _ Hb57.out) (fun _ => ?_)
    clear hK K hHeld
    have hHeld := (Hcell.out _ Hb57.out)
    try simp only [Act.put, List.setIfInBounds_toArray, List.set_cons_zero, List.set_cons_succ]
    refine wpHK_take (i := 10) (oi := Oper.mk (some 30) _ _ _ _ _) (v := ?_) rfl (by kernel_rfl) (by kernel_rfl) (by kernel_rfl) (by kernel_rfl) (fun _ _ _ h => h) (Or.inl ⟨by rfl, ?_⟩) (by assumption) ?_
    rotate_left
    · (intro w' hSw; (try dsimp only at hSw); (obtain ⟨s1, s2⟩ := hSw); go_simp; try with_reducible rfl)
    try simp only [Act.put, List.setIfInBounds_toArray, List.set_cons_zero, List.set_cons_succ]
    refine wpHK_take (i := 11) (oi := Oper.mk (some 31) _ _ _ _ _) (v := ?_) rfl (by kernel_rfl) (by kernel_rfl) (by kernel_rfl) (by kernel_rfl) (fun _ _ _ h => h) (Or.inl ⟨by rfl, ?_⟩) (by assumption) ?_
    rotate_left
    · (intro w' hSw; (try dsimp only at hSw); (obtain ⟨s1, s2⟩ := hSw); go_simp; try with_reducible rfl)
    try simp only [Act.put, List.setIfInBounds_toArray, List.set_cons_zero, List.set_cons_succ]
    refine wpHK_tail (j := 12) (o := Oper.mk (none) _ _ _ _ _) rfl (by kernel_rfl) (by decide) (fun K hK => ?_)
    go_simp
    refine hK.out _ _ ?_
    clear hK K
    try simp only [Act.put, List.setIfInBounds_toArray, List.set_cons_zero, List.set_cons_succ]
    refine wpHK_pure (i := 13) (oi := Oper.mk (some 7) _ _ _ _ _) (v := ?_) rfl (by kernel_rfl) (by kernel_rfl) (by kernel_rfl) (fun _ _ _ h => h) (Or.inl ⟨by rfl, ?_⟩) ?_
    rotate_left
    · (intro w' _; go_simp; try with_reducible rfl)
    try simp only [Act.put, List.setIfInBounds_toArray, List.set_cons_zero, List.set_cons_succ]
    refine wpHK_done (by kernel_rfl) ?_ _
    refine NoPanic.normal ?_
    go_wp2_with fail
    refine bodyPost_ret (v := .tuple #[.agg #[.bool sn, .string bn], .int .i64 cd]) (by simp [results, Try.results80, go_sem, d0, d1]) rfl ?_
    refine ⟨fun _ hf => by rw [(Hres.out.1 hf).1, (Hres.out.1 hf).2], fun _ hf => by rw [(Hres.out.2 hf).1, (Hres.out.2 hf).2], fun h => absurd Hm.out.1 h, ?_⟩
    exact ((H5.out.1.trans (Hb57.out.mono (by omega))).setCell (by show w.heap.size ≤ w.heap.size + 1 + 1; omega) _).setCell (by show w.heap.size ≤ w.heap.size + 1 + 1; omega) _
  · have Hm := Lib.hid hm
    clear hm
    go_enter Try.func80, Try.ntmps80
    go_wp2_with fail
    refine HO.out.mono ?_
    rintro e w5 ⟨h1, h2⟩
    obtain ⟨A5, n5, c5, rfl, hb5⟩ := h2 (fun h => Hm.out (may2_all.1 h))
    have hblk5 := Hb.out.2.1.below hb5 (by rw [Hb.out.2.2]; omega)
    have hb05 := Hb.out.1.trans (hb5.mono (by rw [Hb.out.2.2]; omega))
    have d0 : w5.cell? ⟨w.heap.size + 1 + 1, 0, none⟩ = some (.bool false) := hblk5.cell 0
    have d1 : w5.cell? ⟨w.heap.size + 1 + 1, 1, none⟩ = some (.string ⟨#[]⟩) := hblk5.cell 1
    have f0 := hblk5.frozen 0
    have f1 := hblk5.frozen 1
    clear h1 h2 hb5 hblk5
    go_wp2_with fail
    refine bodyPost_ret (v := .tuple #[.agg #[.bool false, .string ⟨#[]⟩], .int .i64 2]) (by simp [results, Try.results80, go_sem, d0, d1]) rfl ?_
    refine ⟨fun h => absurd h Hm.out, fun h => absurd h Hm.out, fun _ => rfl, ?_⟩
    exact (hb05.setCell (by show w.heap.size ≤ w.heap.size + 1 + 1; omega) _).setCell (by show w.heap.size ≤ w.heap.size + 1 + 1; omega) _
set_option maxRecDepth 100000 in
set_option maxHeartbeats 4000000 in
theorem two82_any {w : World} {na nb : Bool} {sa sb : ByteArray} {op : Int → Int → Int} (hF : Does 82 op) (hop : ∀ x y : Int, (wds x.natAbs).length ≤ 5000 → (wds y.natAbs).length ≤ 5000 → (wds (op x y).natAbs).length ≤ 100000) :
    Calls Try.prog 80 #[.agg #[.bool na, .string sa], .agg #[.bool nb, .string sb], .func (.func 82) #[] #[]] w (Ans w (May2 (na, sa) (nb, sb)) (op (num (na, sa)) (num (nb, sb)))) := by
  have hb1 := new_below w (.cells #[.bool na, .string sa] 26)
  have hb2 := hb1.alloc (by simp) (.cells #[.bool nb, .string sb] 26)
  have hb3 := hb2.alloc (by simp; omega) (.cells #[.bool false, .string ⟨#[]⟩] 26)
  have hb4 := hb3.alloc (by simp; omega) (.cells #[.bool na, .string sa, .bool nb, .string sb] 26)
  obtain ⟨W3, hW3⟩ : ∃ W3, W3 = ((w.alloc (.cells #[.bool na, .string sa] 26)).alloc (.cells #[.bool nb, .string sb] 26)).alloc (.cells #[.bool false, .string ⟨#[]⟩] 26) := ⟨_, rfl⟩
  have hsz3 : W3.heap.size = w.heap.size + 1 + 1 + 1 := by rw [hW3]; simp
  have hO := ofs_any (c := 2) (n := 2) (blk_pair (w := W3) (na, sa) (nb, sb)) (by simp) rfl (by omega)
  have hbk := (Blk.new ((w.alloc (.cells #[.bool na, .string sa] 26)).alloc (.cells #[.bool nb, .string sb] 26)) 26 #[.bool false, .string ⟨#[]⟩])
  rw [← hW3] at hb4 hbk
  have hbk2 : Blk (W3.alloc (.cells #[.bool na, .string sa, .bool nb, .string sb] 26)) (w.heap.size + 1 + 1) 26 #[.bool false, .string ⟨#[]⟩] := by
    have := hbk.alloc (.cells #[.bool na, .string sa, .bool nb, .string sb] 26)
    simpa using this
  rw [hsz3] at hO
  have hsz4 : (W3.alloc (.cells #[.bool na, .string sa, .bool nb, .string sb] 26)).heap.size = w.heap.size + 1 + 1 + 1 + 1 := by rw [World.size_alloc, hsz3]
  rw [hW3] at hO hb4 hbk2 hsz4
  have HO := Lib.hid hO
  have Hb := Lib.hid (And.intro hb4 (And.intro hbk2 hsz4))
  have HF := Lib.hid (And.intro hF hop)
  clear hO hb1 hb2 hb3 hb4 hW3 hsz3 hbk hbk2 hsz4 hF hop
  by_cases hm : May2 (na, sa) (nb, sb)
  · obtain ⟨z, hz⟩ : ∃ z, z = op (num (na, sa)) (num (nb, sb)) := ⟨_, rfl⟩
    rw [← hz]
    have Hm := Lib.hid (And.intro hm hz)
    obtain ⟨sn, bn, cd, hres⟩ : ∃ (sn : Bool) (bn : ByteArray) (cd : Int), (fits z → enc z = .agg #[.bool sn, .string bn] ∧ cd = 0) ∧ (¬ fits z → none_ = .agg #[.bool sn, .string bn] ∧ cd = 4) := by
      by_cases hf : fits z
      · exact ⟨_, _, 0, fun _ => ⟨rfl, rfl⟩, fun h => absurd hf h⟩
      · exact ⟨_, _, 4, fun h => absurd h hf, fun _ => ⟨rfl, rfl⟩⟩
    have hAns : Ans w (May2 (na, sa) (nb, sb)) z (.returned (.tuple #[.agg #[.bool sn, .string bn], .int .i64 cd])) = Ans w (May2 (na, sa) (nb, sb)) z (.returned (.tuple #[.agg #[.bool sn, .string bn], .int .i64 cd])) := rfl
    have Hres := Lib.hid hres
    clear hz hm hAns hres
    go_enter Try.func80, Try.ntmps80
    go_wp2_with fail
    refine HO.out.mono ?_
    rintro e w5 ⟨h1, h2⟩
    obtain ⟨A5, n5, c5, gs, rfl, hn5, hr5, hi5, hb5, hge⟩ := h1 (may2_all.2 Hm.out.1)
    obtain ⟨g1, g2, rfl, hx, hy, hne⟩ := ints_two hi5
    obtain ⟨ad, rfl, hadb, p0⟩ := hr5.at_ (k := 0) (by simp)
    obtain ⟨ad', e', _, p1⟩ := hr5.at_ (k := 1) (by simp)
    injection e' with e'
    subst e'
    rw [Addr.add_zero'] at p0
    rw [add_pos (by decide)] at p1
    have p0' : w5.cell? ad = some (.pointer (some ⟨g1, 0, none⟩)) := p0
    have p1' : w5.cell? ⟨ad.block, ad.off + 1, none⟩ = some (.pointer (some ⟨g2, 0, none⟩)) := p1
    obtain rfl : n5 = 2 := hn5.out.1
    have hblk5 := Hb.out.2.1.below hb5 (by rw [Hb.out.2.2]; omega)
    have hb05 := Hb.out.1.trans (hb5.mono (by rw [Hb.out.2.2]; omega))
    have hsz5 : w.heap.size + 1 + 1 + 1 + 1 ≤ w5.heap.size := by have := hb5.size; rw [Hb.out.2.2] at this; exact this
    have H5 := Lib.hid (And.intro hb05 (And.intro hx (And.intro hy hblk5)))
    clear h1 h2 hr5 hi5 hge hb5 p0 p1 hne hb05 hx hy hblk5
    go_wp2_with fail
    have hba : Below w5.heap.size w5 (w5.drew.alloc (.cells #[.bool false, .slice none 0 0] 82)) := (Below.refl _ _).drew.alloc (Nat.le_refl _) _
    have hxa := H5.out.2.1.below hba
    have hya := H5.out.2.2.1.below hba
    have HC := Lib.hid (HF.out.1 _ w5.heap.size g1 g2 _ _ (IntB.zero w5.drew).slot hxa hya (len_num Hm.out.1.1) (len_num Hm.out.1.2))
    have hcell : ∀ w' : World, Below w5.heap.size w5 w' → w'.cell? ad = some (.pointer (some ⟨g1, 0, none⟩)) ∧ w'.cell? ⟨ad.block, ad.off + 1, none⟩ = some (.pointer (some ⟨g2, 0, none⟩)) := fun w' hb => ⟨(hb.cell hadb).trans p0', (hb.cell (p := ⟨ad.block, ad.off + 1, none⟩) hadb).trans p1'⟩
    have hla := hba.size
    have Hba := Lib.hid hba
    have Hcell := Lib.hid hcell
    clear hcell hba
    refine wp_region_noPanic ?_
    refine wp_region_HK (fun w' => w'.cell? ad = some (.pointer (some ⟨g1, 0, none⟩)) ∧ w'.cell? ⟨ad.block, ad.off + 1, none⟩ = some (.pointer (some ⟨g2, 0, none⟩))) 12 (by kernel_rfl) ⟨p0', p1'⟩ (fun hHeld => ?_)
    refine wpHK_take (i := 0) (oi := Oper.mk (some 20) _ _ _ _ _) (v := ?_) rfl (by kernel_rfl) (by kernel_rfl) (by kernel_rfl) (by kernel_rfl) (fun _ _ _ h => h) (Or.inl ⟨by rfl, ?_⟩) (by assumption) ?_
    rotate_left
    · (intro w' hSw; (try dsimp only at hSw); (obtain ⟨s1, s2⟩ := hSw); go_simp; try with_reducible rfl)
    try simp only [Act.put, List.setIfInBounds_toArray, List.set_cons_zero, List.set_cons_succ]
    refine wpHK_take (i := 2) (oi := Oper.mk (some 22) _ _ _ _ _) (v := ?_) rfl (by kernel_rfl) (by kernel_rfl) (by kernel_rfl) (by kernel_rfl) (fun _ _ _ h => h) (Or.inl ⟨by rfl, ?_⟩) (by assumption) ?_
    rotate_left
    · (intro w' hSw; (try dsimp only at hSw); (obtain ⟨s1, s2⟩ := hSw); go_simp; try with_reducible rfl)
    try simp only [Act.put, List.setIfInBounds_toArray, List.set_cons_zero, List.set_cons_succ]
    refine wpHK_take (i := 3) (oi := Oper.mk (some 23) _ _ _ _ _) (v := ?_) rfl (by kernel_rfl) (by kernel_rfl) (by kernel_rfl) (by kernel_rfl) (fun _ _ _ h => h) (Or.inl ⟨by rfl, ?_⟩) (by assumption) ?_
    rotate_left
    · (intro w' hSw; (try dsimp only at hSw); (obtain ⟨s1, s2⟩ := hSw); go_simp; try with_reducible rfl)
    try simp only [Act.put, List.setIfInBounds_toArray, List.set_cons_zero, List.set_cons_succ]
    refine wpHK_take (i := 4) (oi := Oper.mk (some 24) _ _ _ _ _) (v := ?_) rfl (by kernel_rfl) (by kernel_rfl) (by kernel_rfl) (by kernel_rfl) (fun _ _ _ h => h) (Or.inl ⟨by rfl, ?_⟩) (by assumption) ?_
    rotate_left
    · (intro w' hSw; (try dsimp only at hSw); (obtain ⟨s1, s2⟩ := hSw); go_simp; try with_reducible rfl)
    try simp only [Act.put, List.setIfInBounds_toArray, List.set_cons_zero, List.set_cons_succ]
    refine wpHK_take (i := 5) (oi := Oper.mk (some 25) _ _ _ _ _) (v := ?_) rfl (by kernel_rfl) (by kernel_rfl) (by kernel_rfl) (by kernel_rfl) (fun _ _ _ h => h) (Or.inl ⟨by rfl, ?_⟩) (by assumption) ?_
    rotate_left
    · (intro w' hSw; (try dsimp only at hSw); (obtain ⟨s1, s2⟩ := hSw); go_simp; try with_reducible rfl)
    try simp only [Act.put, List.setIfInBounds_toArray, List.set_cons_zero, List.set_cons_succ]
    refine wpHK_take (i := 6) (oi := Oper.mk (some 26) _ _ _ _ _) (v := ?_) rfl (by kernel_rfl) (by kernel_rfl) (by kernel_rfl) (by kernel_rfl) (fun _ _ _ h => h) (Or.inl ⟨by rfl, ?_⟩) (by assumption) ?_
    rotate_left
    · (intro w' hSw; (try dsimp only at hSw); (obtain ⟨s1, s2⟩ := hSw); go_simp; try with_reducible rfl)
    try simp only [Act.put, List.setIfInBounds_toArray, List.set_cons_zero, List.set_cons_succ]
    refine wpHK_take (i := 7) (oi := Oper.mk (some 27) _ _ _ _ _) (v := ?_) rfl (by kernel_rfl) (by kernel_rfl) (by kernel_rfl) (by kernel_rfl) (fun _ _ _ h => h) (Or.inl ⟨by rfl, ?_⟩) (by assumption) ?_
    rotate_left
    · (intro w' hSw; (try dsimp only at hSw); (obtain ⟨s1, s2⟩ := hSw); go_simp; try with_reducible rfl)
    try simp only [Act.put, List.setIfInBounds_toArray, List.set_cons_zero, List.set_cons_succ]
    refine wpHK_one (j := 1) (o := Oper.mk (some 21) _ _ _ _ _) rfl (by kernel_rfl) (fun K hK => ?_)
    go_simp
    try simp only []
    refine hK.out _ _ (Hcell.out _ Hba.out) (fun _ => ?_)
    clear hK K hHeld
    have hHeld := (Hcell.out _ Hba.out)
    try simp only [Act.put, List.setIfInBounds_toArray, List.set_cons_zero, List.set_cons_succ]
    refine wpHK_one (j := 8) (o := Oper.mk (some 28) _ _ _ _ _) rfl (by kernel_rfl) (fun K hK => ?_)
    go_simp
    refine HC.out.mono ?_
    rintro e w6 ⟨rfl, hi6, hg6⟩
    try simp only []
    rw [← Hm.out.2] at hi6
    have hb56 := up_row Hba.out hg6 hla (Nat.le_refl _)
    have HT := Lib.hid (told_any hi6 (by rw [Hm.out.2]; exact Nat.le_trans (HF.out.2 _ _ (len_num Hm.out.1.1) (len_num Hm.out.1.2)) (by omega)))
    refine hK.out _ _ (Hcell.out _ hb56) (fun _ => ?_)
    clear hK K hHeld
    have hHeld := (Hcell.out _ hb56)
    try simp only [Act.put, List.setIfInBounds_toArray, List.set_cons_zero, List.set_cons_succ]
    refine wpHK_one (j := 9) (o := Oper.mk (some 29) _ _ _ _ _) rfl (by kernel_rfl) (fun K hK => ?_)
    go_simp
    refine HT.out.mono ?_
    rintro e w7 ⟨t1, t2, hb7⟩
    have hb57 := hb56.trans (hb7.mono hb56.size)
    have he : e = .returned (.tuple #[.agg #[.bool sn, .string bn], .int .i64 cd]) := by
      by_cases hf : fits z
      · rw [t1 hf, (Hres.out.1 hf).1, (Hres.out.1 hf).2]
      · rw [t2 hf, (Hres.out.2 hf).1, (Hres.out.2 hf).2]
    subst he
    have hblk7 := H5.out.2.2.2.below hb57 (by omega)
    have d0 : w7.cell? ⟨w.heap.size + 1 + 1, 0, none⟩ = some (.bool false) := hblk7.cell 0
    have d1 : w7.cell? ⟨w.heap.size + 1 + 1, 1, none⟩ = some (.string ⟨#[]⟩) := hblk7.cell 1
    have f0 := hblk7.frozen 0
    have f1 := hblk7.frozen 1
    have Hb57 := Lib.hid hb57
    clear t1 t2 hb7 hblk7
    try simp only []
    refine hK.out _ _ (Hcell.out _ Hb57.out) (fun _ => ?_)
    clear hK K hHeld
    have hHeld := (Hcell.out _ Hb57.out)
    try simp only [Act.put, List.setIfInBounds_toArray, List.set_cons_zero, List.set_cons_succ]
    refine wpHK_take (i := 10) (oi := Oper.mk (some 30) _ _ _ _ _) (v := ?_) rfl (by kernel_rfl) (by kernel_rfl) (by kernel_rfl) (by kernel_rfl) (fun _ _ _ h => h) (Or.inl ⟨by rfl, ?_⟩) (by assumption) ?_
    rotate_left
    · (intro w' hSw; (try dsimp only at hSw); (obtain ⟨s1, s2⟩ := hSw); go_simp; try with_reducible rfl)
    try simp only [Act.put, List.setIfInBounds_toArray, List.set_cons_zero, List.set_cons_succ]
    refine wpHK_take (i := 11) (oi := Oper.mk (some 31) _ _ _ _ _) (v := ?_) rfl (by kernel_rfl) (by kernel_rfl) (by kernel_rfl) (by kernel_rfl) (fun _ _ _ h => h) (Or.inl ⟨by rfl, ?_⟩) (by assumption) ?_
    rotate_left
    · (intro w' hSw; (try dsimp only at hSw); (obtain ⟨s1, s2⟩ := hSw); go_simp; try with_reducible rfl)
    try simp only [Act.put, List.setIfInBounds_toArray, List.set_cons_zero, List.set_cons_succ]
    refine wpHK_tail (j := 12) (o := Oper.mk (none) _ _ _ _ _) rfl (by kernel_rfl) (by decide) (fun K hK => ?_)
    go_simp
    refine hK.out _ _ ?_
    clear hK K
    try simp only [Act.put, List.setIfInBounds_toArray, List.set_cons_zero, List.set_cons_succ]
    refine wpHK_pure (i := 13) (oi := Oper.mk (some 7) _ _ _ _ _) (v := ?_) rfl (by kernel_rfl) (by kernel_rfl) (by kernel_rfl) (fun _ _ _ h => h) (Or.inl ⟨by rfl, ?_⟩) ?_
    rotate_left
    · (intro w' _; go_simp; try with_reducible rfl)
    try simp only [Act.put, List.setIfInBounds_toArray, List.set_cons_zero, List.set_cons_succ]
    refine wpHK_done (by kernel_rfl) ?_ _
    refine NoPanic.normal ?_
    go_wp2_with fail
    refine bodyPost_ret (v := .tuple #[.agg #[.bool sn, .string bn], .int .i64 cd]) (by simp [results, Try.results80, go_sem, d0, d1]) rfl ?_
    refine ⟨fun _ hf => by rw [(Hres.out.1 hf).1, (Hres.out.1 hf).2], fun _ hf => by rw [(Hres.out.2 hf).1, (Hres.out.2 hf).2], fun h => absurd Hm.out.1 h, ?_⟩
    exact ((H5.out.1.trans (Hb57.out.mono (by omega))).setCell (by show w.heap.size ≤ w.heap.size + 1 + 1; omega) _).setCell (by show w.heap.size ≤ w.heap.size + 1 + 1; omega) _
  · have Hm := Lib.hid hm
    clear hm
    go_enter Try.func80, Try.ntmps80
    go_wp2_with fail
    refine HO.out.mono ?_
    rintro e w5 ⟨h1, h2⟩
    obtain ⟨A5, n5, c5, rfl, hb5⟩ := h2 (fun h => Hm.out (may2_all.1 h))
    have hblk5 := Hb.out.2.1.below hb5 (by rw [Hb.out.2.2]; omega)
    have hb05 := Hb.out.1.trans (hb5.mono (by rw [Hb.out.2.2]; omega))
    have d0 : w5.cell? ⟨w.heap.size + 1 + 1, 0, none⟩ = some (.bool false) := hblk5.cell 0
    have d1 : w5.cell? ⟨w.heap.size + 1 + 1, 1, none⟩ = some (.string ⟨#[]⟩) := hblk5.cell 1
    have f0 := hblk5.frozen 0
    have f1 := hblk5.frozen 1
    clear h1 h2 hb5 hblk5
    go_wp2_with fail
    refine bodyPost_ret (v := .tuple #[.agg #[.bool false, .string ⟨#[]⟩], .int .i64 2]) (by simp [results, Try.results80, go_sem, d0, d1]) rfl ?_
    refine ⟨fun h => absurd h Hm.out, fun h => absurd h Hm.out, fun _ => rfl, ?_⟩
    exact (hb05.setCell (by show w.heap.size ≤ w.heap.size + 1 + 1; omega) _).setCell (by show w.heap.size ≤ w.heap.size + 1 + 1; omega) _
theorem does63 : Does 63 (· + ·) := fun w g gx gy x y h1 h2 h3 h4 h5 => add2_any h1 h2 h3 (by omega) (by omega)
theorem does81 : Does 81 (· - ·) := fun w g gx gy x y h1 h2 h3 h4 h5 => sub2_any h1 h2 h3 (by omega) (by omega)
theorem does82 : Does 82 (· * ·) := fun w g gx gy x y h1 h2 h3 h4 h5 => mul_any h1 h2 h3 (by omega) (by omega)
theorem len_sum {a b : Nat} (ha : (wds a).length ≤ 5000) (hb : (wds b).length ≤ 5000) : (wds (a + b)).length ≤ 100000 := by
  rcases Nat.le_total a b with h | h
  · exact Nat.le_trans (len_mono (show a + b ≤ 2 * b by omega)) (Nat.le_trans (len_mul (p := 1) (q := 5000) (len_small (by decide)) hb) (by omega))
  · exact Nat.le_trans (len_mono (show a + b ≤ 2 * a by omega)) (Nat.le_trans (len_mul (p := 1) (q := 5000) (len_small (by decide)) ha) (by omega))
theorem len_add (x y : Int) (hx : (wds x.natAbs).length ≤ 5000) (hy : (wds y.natAbs).length ≤ 5000) : (wds (x + y).natAbs).length ≤ 100000 := Nat.le_trans (len_mono (Int.natAbs_add_le x y)) (len_sum hx hy)
theorem len_sub (x y : Int) (hx : (wds x.natAbs).length ≤ 5000) (hy : (wds y.natAbs).length ≤ 5000) : (wds (x - y).natAbs).length ≤ 100000 := Nat.le_trans (len_mono (Int.natAbs_sub_le x y)) (len_sum hx hy)
theorem len_mulI (x y : Int) (hx : (wds x.natAbs).length ≤ 5000) (hy : (wds y.natAbs).length ≤ 5000) : (wds (x * y).natAbs).length ≤ 100000 := by rw [Int.natAbs_mul]; exact Nat.le_trans (len_mul hx hy) (by omega)

set_option maxRecDepth 100000 in
set_option maxHeartbeats 2000000 in
theorem wadd_any {w : World} {na nb : Bool} {sa sb : ByteArray} :
    Calls Try.prog 27 #[.agg #[.bool na, .string sa], .agg #[.bool nb, .string sb]] w (Ans w (May2 (na, sa) (nb, sb)) (num (na, sa) + num (nb, sb))) := by
  have hb1 := new_below w (.cells #[.bool na, .string sa] 26)
  have hb2 := hb1.alloc (by simp) (.cells #[.bool nb, .string sb] 26)
  have hb3 := hb2.alloc (by simp; omega) (.cells #[.bool false, .string ⟨#[]⟩] 26)
  have HT := Lib.hid (two63_any (w := ((w.alloc (.cells #[.bool na, .string sa] 26)).alloc (.cells #[.bool nb, .string sb] 26)).alloc (.cells #[.bool false, .string ⟨#[]⟩] 26)) (na := na) (nb := nb) (sa := sa) (sb := sb) does63 len_add)
  have hbk := (Blk.new ((w.alloc (.cells #[.bool na, .string sa] 26)).alloc (.cells #[.bool nb, .string sb] 26)) 26 #[.bool false, .string ⟨#[]⟩])
  obtain ⟨z, hz⟩ : ∃ z, z = num (na, sa) + num (nb, sb) := ⟨_, rfl⟩
  have HT2 : Hid (Calls Try.prog 80 #[.agg #[.bool na, .string sa], .agg #[.bool nb, .string sb], .func (.func 63) #[] #[]] (((w.alloc (.cells #[.bool na, .string sa] 26)).alloc (.cells #[.bool nb, .string sb] 26)).alloc (.cells #[.bool false, .string ⟨#[]⟩] 26)) (Ans (((w.alloc (.cells #[.bool na, .string sa] 26)).alloc (.cells #[.bool nb, .string sb] 26)).alloc (.cells #[.bool false, .string ⟨#[]⟩] 26)) (May2 (na, sa) (nb, sb)) z)) := by rw [hz]; exact HT.out
  rw [← hz]
  have Hb := Lib.hid (And.intro hb3 hbk)
  clear HT hz hb1 hb2 hb3 hbk
  go_enter Try.func27, Try.ntmps27
  go_wp2_with fail
  refine HT2.out.mono ?_
  rintro e w5 ⟨t1, t2, t3, hb5⟩
  obtain ⟨sn, bn, cd, he, hans⟩ : ∃ (sn : Bool) (bn : ByteArray) (cd : Int), e = .returned (.tuple #[.agg #[.bool sn, .string bn], .int .i64 cd]) ∧ ∀ w', Below w.heap.size w w' → Ans w (May2 (na, sa) (nb, sb)) z (.returned (.tuple #[.agg #[.bool sn, .string bn], .int .i64 cd])) w' := by
    by_cases hm : May2 (na, sa) (nb, sb)
    · by_cases hf : fits z
      · exact ⟨_, _, 0, t1 hm hf, fun w' hb => ⟨fun _ _ => rfl, fun _ h => absurd hf h, fun h => absurd hm h, hb⟩⟩
      · exact ⟨_, _, 4, t2 hm hf, fun w' hb => ⟨fun _ h => absurd h hf, fun _ _ => rfl, fun h => absurd hm h, hb⟩⟩
    · exact ⟨_, _, 2, t3 hm, fun w' hb => ⟨fun h => absurd h hm, fun h => absurd h hm, fun _ => rfl, hb⟩⟩
  subst he
  have hblk5 := Hb.out.2.below hb5 (by simp)
  rw [show ((w.alloc (.cells #[.bool na, .string sa] 26)).alloc (.cells #[.bool nb, .string sb] 26)).heap.size = w.heap.size + 1 + 1 by simp] at hblk5
  have hb05 := Hb.out.1.trans (hb5.mono (by simp; omega))
  have d0 : w5.cell? ⟨w.heap.size + 1 + 1, 0, none⟩ = some (.bool false) := hblk5.cell 0
  have d1 : w5.cell? ⟨w.heap.size + 1 + 1, 1, none⟩ = some (.string ⟨#[]⟩) := hblk5.cell 1
  have f0 := hblk5.frozen 0
  have f1 := hblk5.frozen 1
  have Hans := Lib.hid hans
  clear t1 t2 t3 hb5 hblk5 hans
  go_wp2_with fail
  refine bodyPost_ret (v := .tuple #[.agg #[.bool sn, .string bn], .int .i64 cd]) (by simp [results, Try.results27, go_sem, d0, d1]) rfl ?_
  exact Hans.out _ ((hb05.setCell (by show w.heap.size ≤ w.heap.size + 1 + 1; omega) _).setCell (by show w.heap.size ≤ w.heap.size + 1 + 1; omega) _)

set_option maxRecDepth 100000 in
set_option maxHeartbeats 2000000 in
theorem wsub_any {w : World} {na nb : Bool} {sa sb : ByteArray} :
    Calls Try.prog 28 #[.agg #[.bool na, .string sa], .agg #[.bool nb, .string sb]] w (Ans w (May2 (na, sa) (nb, sb)) (num (na, sa) - num (nb, sb))) := by
  have hb1 := new_below w (.cells #[.bool na, .string sa] 26)
  have hb2 := hb1.alloc (by simp) (.cells #[.bool nb, .string sb] 26)
  have hb3 := hb2.alloc (by simp; omega) (.cells #[.bool false, .string ⟨#[]⟩] 26)
  have HT := Lib.hid (two81_any (w := ((w.alloc (.cells #[.bool na, .string sa] 26)).alloc (.cells #[.bool nb, .string sb] 26)).alloc (.cells #[.bool false, .string ⟨#[]⟩] 26)) (na := na) (nb := nb) (sa := sa) (sb := sb) does81 len_sub)
  have hbk := (Blk.new ((w.alloc (.cells #[.bool na, .string sa] 26)).alloc (.cells #[.bool nb, .string sb] 26)) 26 #[.bool false, .string ⟨#[]⟩])
  obtain ⟨z, hz⟩ : ∃ z, z = num (na, sa) - num (nb, sb) := ⟨_, rfl⟩
  have HT2 : Hid (Calls Try.prog 80 #[.agg #[.bool na, .string sa], .agg #[.bool nb, .string sb], .func (.func 81) #[] #[]] (((w.alloc (.cells #[.bool na, .string sa] 26)).alloc (.cells #[.bool nb, .string sb] 26)).alloc (.cells #[.bool false, .string ⟨#[]⟩] 26)) (Ans (((w.alloc (.cells #[.bool na, .string sa] 26)).alloc (.cells #[.bool nb, .string sb] 26)).alloc (.cells #[.bool false, .string ⟨#[]⟩] 26)) (May2 (na, sa) (nb, sb)) z)) := by rw [hz]; exact HT.out
  rw [← hz]
  have Hb := Lib.hid (And.intro hb3 hbk)
  clear HT hz hb1 hb2 hb3 hbk
  go_enter Try.func28, Try.ntmps28
  go_wp2_with fail
  refine HT2.out.mono ?_
  rintro e w5 ⟨t1, t2, t3, hb5⟩
  obtain ⟨sn, bn, cd, he, hans⟩ : ∃ (sn : Bool) (bn : ByteArray) (cd : Int), e = .returned (.tuple #[.agg #[.bool sn, .string bn], .int .i64 cd]) ∧ ∀ w', Below w.heap.size w w' → Ans w (May2 (na, sa) (nb, sb)) z (.returned (.tuple #[.agg #[.bool sn, .string bn], .int .i64 cd])) w' := by
    by_cases hm : May2 (na, sa) (nb, sb)
    · by_cases hf : fits z
      · exact ⟨_, _, 0, t1 hm hf, fun w' hb => ⟨fun _ _ => rfl, fun _ h => absurd hf h, fun h => absurd hm h, hb⟩⟩
      · exact ⟨_, _, 4, t2 hm hf, fun w' hb => ⟨fun _ h => absurd h hf, fun _ _ => rfl, fun h => absurd hm h, hb⟩⟩
    · exact ⟨_, _, 2, t3 hm, fun w' hb => ⟨fun h => absurd h hm, fun h => absurd h hm, fun _ => rfl, hb⟩⟩
  subst he
  have hblk5 := Hb.out.2.below hb5 (by simp)
  rw [show ((w.alloc (.cells #[.bool na, .string sa] 26)).alloc (.cells #[.bool nb, .string sb] 26)).heap.size = w.heap.size + 1 + 1 by simp] at hblk5
  have hb05 := Hb.out.1.trans (hb5.mono (by simp; omega))
  have d0 : w5.cell? ⟨w.heap.size + 1 + 1, 0, none⟩ = some (.bool false) := hblk5.cell 0
  have d1 : w5.cell? ⟨w.heap.size + 1 + 1, 1, none⟩ = some (.string ⟨#[]⟩) := hblk5.cell 1
  have f0 := hblk5.frozen 0
  have f1 := hblk5.frozen 1
  have Hans := Lib.hid hans
  clear t1 t2 t3 hb5 hblk5 hans
  go_wp2_with fail
  refine bodyPost_ret (v := .tuple #[.agg #[.bool sn, .string bn], .int .i64 cd]) (by simp [results, Try.results28, go_sem, d0, d1]) rfl ?_
  exact Hans.out _ ((hb05.setCell (by show w.heap.size ≤ w.heap.size + 1 + 1; omega) _).setCell (by show w.heap.size ≤ w.heap.size + 1 + 1; omega) _)

set_option maxRecDepth 100000 in
set_option maxHeartbeats 2000000 in
theorem wmul_any {w : World} {na nb : Bool} {sa sb : ByteArray} :
    Calls Try.prog 29 #[.agg #[.bool na, .string sa], .agg #[.bool nb, .string sb]] w (Ans w (May2 (na, sa) (nb, sb)) (num (na, sa) * num (nb, sb))) := by
  have hb1 := new_below w (.cells #[.bool na, .string sa] 26)
  have hb2 := hb1.alloc (by simp) (.cells #[.bool nb, .string sb] 26)
  have hb3 := hb2.alloc (by simp; omega) (.cells #[.bool false, .string ⟨#[]⟩] 26)
  have HT := Lib.hid (two82_any (w := ((w.alloc (.cells #[.bool na, .string sa] 26)).alloc (.cells #[.bool nb, .string sb] 26)).alloc (.cells #[.bool false, .string ⟨#[]⟩] 26)) (na := na) (nb := nb) (sa := sa) (sb := sb) does82 len_mulI)
  have hbk := (Blk.new ((w.alloc (.cells #[.bool na, .string sa] 26)).alloc (.cells #[.bool nb, .string sb] 26)) 26 #[.bool false, .string ⟨#[]⟩])
  obtain ⟨z, hz⟩ : ∃ z, z = num (na, sa) * num (nb, sb) := ⟨_, rfl⟩
  have HT2 : Hid (Calls Try.prog 80 #[.agg #[.bool na, .string sa], .agg #[.bool nb, .string sb], .func (.func 82) #[] #[]] (((w.alloc (.cells #[.bool na, .string sa] 26)).alloc (.cells #[.bool nb, .string sb] 26)).alloc (.cells #[.bool false, .string ⟨#[]⟩] 26)) (Ans (((w.alloc (.cells #[.bool na, .string sa] 26)).alloc (.cells #[.bool nb, .string sb] 26)).alloc (.cells #[.bool false, .string ⟨#[]⟩] 26)) (May2 (na, sa) (nb, sb)) z)) := by rw [hz]; exact HT.out
  rw [← hz]
  have Hb := Lib.hid (And.intro hb3 hbk)
  clear HT hz hb1 hb2 hb3 hbk
  go_enter Try.func29, Try.ntmps29
  go_wp2_with fail
  refine HT2.out.mono ?_
  rintro e w5 ⟨t1, t2, t3, hb5⟩
  obtain ⟨sn, bn, cd, he, hans⟩ : ∃ (sn : Bool) (bn : ByteArray) (cd : Int), e = .returned (.tuple #[.agg #[.bool sn, .string bn], .int .i64 cd]) ∧ ∀ w', Below w.heap.size w w' → Ans w (May2 (na, sa) (nb, sb)) z (.returned (.tuple #[.agg #[.bool sn, .string bn], .int .i64 cd])) w' := by
    by_cases hm : May2 (na, sa) (nb, sb)
    · by_cases hf : fits z
      · exact ⟨_, _, 0, t1 hm hf, fun w' hb => ⟨fun _ _ => rfl, fun _ h => absurd hf h, fun h => absurd hm h, hb⟩⟩
      · exact ⟨_, _, 4, t2 hm hf, fun w' hb => ⟨fun _ h => absurd h hf, fun _ _ => rfl, fun h => absurd hm h, hb⟩⟩
    · exact ⟨_, _, 2, t3 hm, fun w' hb => ⟨fun h => absurd h hm, fun h => absurd h hm, fun _ => rfl, hb⟩⟩
  subst he
  have hblk5 := Hb.out.2.below hb5 (by simp)
  rw [show ((w.alloc (.cells #[.bool na, .string sa] 26)).alloc (.cells #[.bool nb, .string sb] 26)).heap.size = w.heap.size + 1 + 1 by simp] at hblk5
  have hb05 := Hb.out.1.trans (hb5.mono (by simp; omega))
  have d0 : w5.cell? ⟨w.heap.size + 1 + 1, 0, none⟩ = some (.bool false) := hblk5.cell 0
  have d1 : w5.cell? ⟨w.heap.size + 1 + 1, 1, none⟩ = some (.string ⟨#[]⟩) := hblk5.cell 1
  have f0 := hblk5.frozen 0
  have f1 := hblk5.frozen 1
  have Hans := Lib.hid hans
  clear t1 t2 t3 hb5 hblk5 hans
  go_wp2_with fail
  refine bodyPost_ret (v := .tuple #[.agg #[.bool sn, .string bn], .int .i64 cd]) (by simp [results, Try.results29, go_sem, d0, d1]) rfl ?_
  exact Hans.out _ ((hb05.setCell (by show w.heap.size ≤ w.heap.size + 1 + 1; omega) _).setCell (by show w.heap.size ≤ w.heap.size + 1 + 1; omega) _)
end Go.Proofs.Ytpnginnjbdedbaa
