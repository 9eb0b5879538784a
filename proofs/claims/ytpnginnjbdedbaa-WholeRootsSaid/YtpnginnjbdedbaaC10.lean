import Derived.Test.YtpnginnjbdedbaaC9
import Derived.Test.YtpnginnjbdedbaaRows
import Derived.Test.YtpnginnjbdedbaaC1
import Derived.WalkKit
import Derived.ProofKit
import Derived.OpenShut
import Derived.Carry
import Derived.JoinedCond
import Derived.ChangeSlices
/- law.WholeRoots (printed by gen_roots.py). -/
namespace Go.Proofs.Ytpnginnjbdedbaa
open Go.RowKit
open Wh
set_option linter.unusedSimpArgs false
set_option linter.unusedVariables false

theorem pow_sb {x : Int} {k n : Nat} (h : SB k x) : SB (k * n + 1) (x ^ n) := by
  unfold SB at *
  rw [Int.natAbs_pow]
  refine Nat.lt_of_le_of_lt (Nat.pow_le_pow_left (Nat.le_of_lt h) n) ?_
  rw [← Nat.pow_mul]
  exact (Nat.pow_lt_pow_iff_right (by decide)).2 (by omega)
theorem not_vast {m n : Nat} (h : vast m n = true) : ¬ bl (m ^ n) ≤ 131072 := by
  unfold vast at h
  obtain ⟨h1, h2⟩ := Bool.and_eq_true_iff.1 h
  exact pow_big (of_decide_eq_true h1) (of_decide_eq_true h2)
theorem root_bad {w : World} {na : Bool} {sa : ByteArray} (hm : ¬ MayL na sa.data.toList) : Calls Try.prog 53 #[.agg #[.bool na, .string sa]] w (Calm w (.tuple #[(.agg #[.bool false, .string ⟨#[]⟩]), (.agg #[.bool false, .string ⟨#[]⟩]), .int .i64 2])) := wroot_any.mono fun e w' h => ⟨h.1 hm, h.2.2.2⟩
theorem root_neg {w : World} {sa : ByteArray} (hm : MayL true sa.data.toList) : Calls Try.prog 53 #[.agg #[.bool true, .string sa]] w (Calm w (.tuple #[(.agg #[.bool false, .string ⟨#[]⟩]), (.agg #[.bool false, .string ⟨#[]⟩]), .int .i64 7])) := wroot_any.mono fun e w' h => ⟨h.2.1 hm rfl, h.2.2.2⟩
theorem sq_bad {w : World} {na : Bool} {sa : ByteArray} (hm : ¬ MayL na sa.data.toList) : Calls Try.prog 54 #[.agg #[.bool na, .string sa]] w (Calm w (.tuple #[(.agg #[.bool false, .string ⟨#[]⟩]), .bool false])) := wsq_any.mono fun e w' h => ⟨h.1 hm, h.2.2.2⟩
theorem sq_neg {w : World} {sa : ByteArray} (hm : MayL true sa.data.toList) : Calls Try.prog 54 #[.agg #[.bool true, .string sa]] w (Calm w (.tuple #[(.agg #[.bool false, .string ⟨#[]⟩]), .bool false])) := wsq_any.mono fun e w' h => ⟨h.2.1 hm rfl, h.2.2.2⟩
theorem sq_yes {w : World} {sa : ByteArray} {r : Nat} (hm : MayL false sa.data.toList) (h1 : r * r = bval sa.data.toList) : Calls Try.prog 54 #[.agg #[.bool false, .string sa]] w (Calm w (.tuple #[enc (r : Int), .bool true])) := wsq_any.mono fun e w' h => by
  obtain ⟨q, h3, h4, h5, _⟩ := h.2.2.1 hm rfl
  have h6 : bval sa.data.toList < (r + 1) * (r + 1) := by rw [← h1, Nat.add_mul, Nat.mul_add]; omega
  obtain rfl := root_only h3 h4 (Nat.le_of_eq h1) h6
  exact ⟨h5 h1, h.2.2.2⟩
theorem sq_no {w : World} {sa : ByteArray} {r : Nat} (hm : MayL false sa.data.toList) (h1 : r * r ≤ bval sa.data.toList) (h2 : bval sa.data.toList < (r + 1) * (r + 1)) (h3 : r * r ≠ bval sa.data.toList) : Calls Try.prog 54 #[.agg #[.bool false, .string sa]] w (Calm w (.tuple #[(.agg #[.bool false, .string ⟨#[]⟩]), .bool false])) := wsq_any.mono fun e w' h => by
  obtain ⟨q, h4, h5, _, h6⟩ := h.2.2.1 hm rfl
  obtain rfl := root_only h1 h2 h4 h5
  exact ⟨h6 h3, h.2.2.2⟩
theorem rroot_told {w : World} {sa : ByteArray} {r : Nat} {s s' : Bool} {b b' : ByteArray} (hm : MayL false sa.data.toList) (h1 : r * r ≤ bval sa.data.toList) (h2 : bval sa.data.toList < (r + 1) * (r + 1)) (he : enc (r : Int) = .agg #[.bool s, .string b]) (he' : enc (num (false, sa) - (r : Int) * (r : Int)) = .agg #[.bool s', .string b']) :
    Calls Try.prog 56 #[.agg #[.bool false, .string sa]] w (Calm w (.tuple #[.agg #[.bool s, .string b], .agg #[.bool s', .string b']])) := (rroot_any hm).mono fun e w' h => by
  obtain ⟨q, h3, h4, h5, h6⟩ := h
  obtain rfl := root_only h1 h2 h3 h4
  exact ⟨by rw [h5, he, show ((bval sa.data.toList : Nat) : Int) = num (false, sa) from rfl, he'], h6⟩
theorem pow_bad {w : World} {na : Bool} {sa : ByteArray} {n : Int} (hn2 : n ≤ 9223372036854775807) (h : ¬ (MayL na sa.data.toList ∧ 0 ≤ n)) : Calls Try.prog 55 #[.agg #[.bool na, .string sa], .int .i64 n] w (Calm w (.tuple #[(.agg #[.bool false, .string ⟨#[]⟩]), .int .i64 2])) := (wpow_any hn2).mono fun e w' h' => ⟨h'.2.2.1 h, h'.2.2.2⟩
theorem pow_yes {w : World} {na : Bool} {sa : ByteArray} {n : Nat} {s : Bool} {b : ByteArray} (hn2 : n ≤ 9223372036854775807) (hm : MayL na sa.data.toList) (hf : fits (num (na, sa) ^ n)) (he : enc (num (na, sa) ^ n) = .agg #[.bool s, .string b]) : Calls Try.prog 55 #[.agg #[.bool na, .string sa], .int .i64 (n : Int)] w (Calm w (.tuple #[.agg #[.bool s, .string b], .int .i64 0])) := (wpow_any (by omega)).mono fun e w' h' => ⟨by
  have := h'.1 ⟨hm, Int.natCast_nonneg n⟩
  rw [Int.toNat_natCast] at this
  rw [this hf, he], h'.2.2.2⟩
theorem pow_no {w : World} {na : Bool} {sa : ByteArray} {n : Nat} (hn2 : n ≤ 9223372036854775807) (hm : MayL na sa.data.toList) (hf : ¬ fits (num (na, sa) ^ n)) : Calls Try.prog 55 #[.agg #[.bool na, .string sa], .int .i64 (n : Int)] w (Calm w (.tuple #[(.agg #[.bool false, .string ⟨#[]⟩]), .int .i64 4])) := (wpow_any (by omega)).mono fun e w' h' => ⟨by
  have := h'.2.1 ⟨hm, Int.natCast_nonneg n⟩
  rw [Int.toNat_natCast] at this
  rw [this hf]; rfl, h'.2.2.2⟩
set_option maxRecDepth 100000 in
set_option maxHeartbeats 8000000 in
theorem roots_long {w : World} {na : Bool} {sa : ByteArray} {n : Int} (hl : isLong (na, sa) = true) :
    Calls Try.prog 9 #[.agg #[.bool na, .string sa], .int .i64 n] w (fun e w' => e = .returned (.bool true) ∧ Below w.heap.size w w') := by
  have HL := Lib.hid (fun W : World => long_one (w := W) (na := na) (sa := sa))
  rw [hl] at HL
  clear hl
  have HW := Lib.hid (fun W : World => works_any (w := W))
  have HN := Lib.hid (fun (W : World) (n : Int) => num_any (w := W) (n := n))
  have E0 := Lib.hid (Env.nil w)
  go_enter Try.func9, Try.ntmps9
  go_upto_region 0 with fail
  go_upto_region 1 with fail
  have E1 : Hid (Env w (w.alloc (.cells #[.bool na, .string sa] 26)) [(w.heap.size, 26, #[.bool na, .string sa])]) := Lib.hid (by have h := (Env.new E0.out 26 #[.bool na, .string sa]); (try simp only [World.size_alloc] at h); exact h)
  generalize (w.alloc (.cells #[.bool na, .string sa] 26)) = W1 at E1 ⊢
  have q0_0 : W1.cell? ⟨w.heap.size, 0, none⟩ = some (.bool na) := (Env.at_ E1.out 0 rfl).cell 0
  have q0_1 : W1.cell? ⟨w.heap.size, 1, none⟩ = some (.string sa) := (Env.at_ E1.out 0 rfl).cell 1
  go_wp2_with fail
  refine (HL.out _).mono ?_
  rintro e w2 ⟨rfl, h2⟩
  have E3 := Lib.hid ((Env.other E1.out (.cells #[.bool na, .string sa] 26)).call h2)
  clear q0_0 q0_1 h2
  go_upto_region 2 with fail
  go_wp2_with fail
  refine (HW.out _).mono ?_
  rintro e w4 ⟨rfl, h4⟩
  have E5 := Lib.hid (E3.out.call h4)
  clear h4
  go_wp2_with fail
  go_ret
  exact ⟨rfl, E5.out.1⟩
set_option maxRecDepth 100000 in
set_option maxHeartbeats 8000000 in
theorem roots_bad {w : World} {na : Bool} {sa : ByteArray} {n : Int} (hl : isLong (na, sa) = false) (hb : isBad (na, sa) = true) (hm : ¬ MayL na sa.data.toList) (hn1 : -9223372036854775808 ≤ n) (hn2 : n ≤ 9223372036854775807) :
    Calls Try.prog 9 #[.agg #[.bool na, .string sa], .int .i64 n] w (fun e w' => e = .returned (.bool true) ∧ Below w.heap.size w w') := by
  have HL := Lib.hid (fun W : World => long_one (w := W) (na := na) (sa := sa))
  rw [hl] at HL
  clear hl
  have HB := Lib.hid (fun W : World => bad_one (w := W) (na := na) (sa := sa))
  rw [hb] at HB
  clear hb
  have H53 := Lib.hid (fun W : World => root_bad (w := W) hm)
  have H54 := Lib.hid (fun W : World => sq_bad (w := W) hm)
  have H55 := Lib.hid (fun W : World => pow_bad (w := W) hn2 (fun h => hm h.1))
  have HA := Lib.hid (fun W : World => arg_any (w := W))
  clear hm hn1 hn2
  have HW := Lib.hid (fun W : World => works_any (w := W))
  have HN := Lib.hid (fun (W : World) (n : Int) => num_any (w := W) (n := n))
  have E0 := Lib.hid (Env.nil w)
  go_enter Try.func9, Try.ntmps9
  go_upto_region 0 with fail
  go_upto_region 1 with fail
  have E1 : Hid (Env w (w.alloc (.cells #[.bool na, .string sa] 26)) [(w.heap.size, 26, #[.bool na, .string sa])]) := Lib.hid (by have h := (Env.new E0.out 26 #[.bool na, .string sa]); (try simp only [World.size_alloc] at h); exact h)
  generalize (w.alloc (.cells #[.bool na, .string sa] 26)) = W1 at E1 ⊢
  have q0_0 : W1.cell? ⟨w.heap.size, 0, none⟩ = some (.bool na) := (Env.at_ E1.out 0 rfl).cell 0
  have q0_1 : W1.cell? ⟨w.heap.size, 1, none⟩ = some (.string sa) := (Env.at_ E1.out 0 rfl).cell 1
  go_wp2_with fail
  refine (HL.out _).mono ?_
  rintro e w2 ⟨rfl, h2⟩
  have E3 := Lib.hid ((Env.other E1.out (.cells #[.bool na, .string sa] 26)).call h2)
  clear q0_0 q0_1 h2
  go_upto_region 3 with fail
  have q0_0 : w2.cell? ⟨w.heap.size, 0, none⟩ = some (.bool na) := (Env.at_ E3.out 0 rfl).cell 0
  have q0_1 : w2.cell? ⟨w.heap.size, 1, none⟩ = some (.string sa) := (Env.at_ E3.out 0 rfl).cell 1
  go_wp2_with fail
  refine (H53.out _).mono ?_
  rintro e w4 ⟨rfl, h4⟩
  have E5 := Lib.hid (E3.out.call h4)
  clear q0_0 q0_1 h4
  go_upto_region 4 with fail
  have E6 : Hid (Env w ((w4.alloc (.cells #[.bool false, .string ⟨#[]⟩] 26)).alloc (.cells #[.bool false, .string ⟨#[]⟩] 26)) [(w4.heap.size + 1, 26, #[.bool false, .string ⟨#[]⟩]), (w4.heap.size, 26, #[.bool false, .string ⟨#[]⟩]), (w.heap.size, 26, #[.bool na, .string sa])]) := Lib.hid (by have h := (Env.new (Env.new E5.out 26 #[.bool false, .string ⟨#[]⟩]) 26 #[.bool false, .string ⟨#[]⟩]); (try simp only [World.size_alloc] at h); exact h)
  generalize ((w4.alloc (.cells #[.bool false, .string ⟨#[]⟩] 26)).alloc (.cells #[.bool false, .string ⟨#[]⟩] 26)) = W6 at E6 ⊢
  have q0_0 : W6.cell? ⟨w.heap.size, 0, none⟩ = some (.bool na) := (Env.at_ E6.out 2 rfl).cell 0
  have q0_1 : W6.cell? ⟨w.heap.size, 1, none⟩ = some (.string sa) := (Env.at_ E6.out 2 rfl).cell 1
  go_wp2_with fail
  refine (H54.out _).mono ?_
  rintro e w7 ⟨rfl, h7⟩
  have E8 := Lib.hid (E6.out.call h7)
  clear q0_0 q0_1 h7
  go_upto_region 5 with fail
  have E9 : Hid (Env w (w7.alloc (.cells #[.bool false, .string ⟨#[]⟩] 26)) [(w7.heap.size, 26, #[.bool false, .string ⟨#[]⟩]), (w4.heap.size + 1, 26, #[.bool false, .string ⟨#[]⟩]), (w4.heap.size, 26, #[.bool false, .string ⟨#[]⟩]), (w.heap.size, 26, #[.bool na, .string sa])]) := Lib.hid (by have h := (Env.new E8.out 26 #[.bool false, .string ⟨#[]⟩]); (try simp only [World.size_alloc] at h); exact h)
  generalize (w7.alloc (.cells #[.bool false, .string ⟨#[]⟩] 26)) = W9 at E9 ⊢
  have q0_0 : W9.cell? ⟨w.heap.size, 0, none⟩ = some (.bool na) := (Env.at_ E9.out 3 rfl).cell 0
  have q0_1 : W9.cell? ⟨w.heap.size, 1, none⟩ = some (.string sa) := (Env.at_ E9.out 3 rfl).cell 1
  go_wp2_with fail
  refine (HB.out _).mono ?_
  rintro e w10 ⟨rfl, h10⟩
  have E11 := Lib.hid ((Env.other E9.out (.cells #[.bool na, .string sa] 26)).call h10)
  clear q0_0 q0_1 h10
  go_upto_region 6 with fail
  have q0_0 : w10.cell? ⟨w.heap.size, 0, none⟩ = some (.bool na) := (Env.at_ E11.out 3 rfl).cell 0
  have q0_1 : w10.cell? ⟨w.heap.size, 1, none⟩ = some (.string sa) := (Env.at_ E11.out 3 rfl).cell 1
  go_wp2_with fail
  refine (H55.out _).mono ?_
  rintro e w12 ⟨rfl, h12⟩
  have E13 := Lib.hid (E11.out.call h12)
  clear q0_0 q0_1 h12
  go_upto_region 7 with fail
  have E14 : Hid (Env w (w12.alloc (.cells #[.bool false, .string ⟨#[]⟩] 26)) [(w12.heap.size, 26, #[.bool false, .string ⟨#[]⟩]), (w7.heap.size, 26, #[.bool false, .string ⟨#[]⟩]), (w4.heap.size + 1, 26, #[.bool false, .string ⟨#[]⟩]), (w4.heap.size, 26, #[.bool false, .string ⟨#[]⟩]), (w.heap.size, 26, #[.bool na, .string sa])]) := Lib.hid (by have h := (Env.new E13.out 26 #[.bool false, .string ⟨#[]⟩]); (try simp only [World.size_alloc] at h); exact h)
  generalize (w12.alloc (.cells #[.bool false, .string ⟨#[]⟩] 26)) = W14 at E14 ⊢
  have q0_0 : W14.cell? ⟨w4.heap.size, 0, none⟩ = some (.bool false) := (Env.at_ E14.out 3 rfl).cell 0
  have q0_1 : W14.cell? ⟨w4.heap.size, 1, none⟩ = some (.string ⟨#[]⟩) := (Env.at_ E14.out 3 rfl).cell 1
  go_wp2_with fail
  refine (HA.out _).mono ?_
  rintro e w15 ⟨rfl, h15⟩
  have E16 := Lib.hid (E14.out.call h15)
  clear q0_0 q0_1 h15
  have q4_0 : w15.cell? ⟨w4.heap.size + 1, 0, none⟩ = some (.bool false) := (Env.at_ E16.out 2 rfl).cell 0
  have q4_1 : w15.cell? ⟨w4.heap.size + 1, 1, none⟩ = some (.string ⟨#[]⟩) := (Env.at_ E16.out 2 rfl).cell 1
  have q9_0 : w15.cell? ⟨w7.heap.size, 0, none⟩ = some (.bool false) := (Env.at_ E16.out 1 rfl).cell 0
  have q9_1 : w15.cell? ⟨w7.heap.size, 1, none⟩ = some (.string ⟨#[]⟩) := (Env.at_ E16.out 1 rfl).cell 1
  have q18_0 : w15.cell? ⟨w12.heap.size, 0, none⟩ = some (.bool false) := (Env.at_ E16.out 0 rfl).cell 0
  have q18_1 : w15.cell? ⟨w12.heap.size, 1, none⟩ = some (.string ⟨#[]⟩) := (Env.at_ E16.out 0 rfl).cell 1
  go_wp2_with fail
  refine (HA.out _).mono ?_
  rintro e w17 ⟨rfl, h17⟩
  have E18 := Lib.hid (E16.out.call h17)
  clear q4_0 q4_1 q9_0 q9_1 q18_0 q18_1 h17
  go_wp2_with fail
  refine (HW.out _).mono ?_
  rintro e w19 ⟨rfl, h19⟩
  have E20 := Lib.hid (E18.out.call h19)
  clear h19
  go_wp2_with fail
  go_ret
  exact ⟨rfl, E20.out.1⟩
set_option maxRecDepth 100000 in
set_option maxHeartbeats 8000000 in
theorem roots_p_neg {w wc : World} {na : Bool} {sa : ByteArray} {n : Int} {u3 u4 u5 u6 u7 u8 u9 u10 u11 u12 u13 u14 u15 u16 u17 u18 u19 u20 u21 u22 u23 u24 u25 u26 u27 u28 u29 u30 u31 u32 u33 u34 u35 u36 u37 u38 u39 u40 u41 u42 u43 u44 u45 u46 u47 u48 u49 u50 u51 u52 u53 u54 u55 u56 u57 u58 u59 u60 u61 u62 u63 u64 u65 u66 u67 u68 u69 u70 u71 u72 u73 u74 u75 u76 u77 u78 u79 u80 u81 u82 u83 u84 u85 u86 u87 u88 u89 u90 u91 u92 u93 u94 u95 u96 u97 u98 u99 u100 u101 u102 u103 u104 u105 u106 u107 u108 u109 u110 u111 u112 u113 u114 u115 u116 u117 u118 u119 u120 u121 u122 u123 u124 u125 u126 u127 u128 u129 u130 u131 u132 u133 u134 u135 u136 u137 u138 u139 u140 u141 u142 u143 u144 u145 u146 u147 u148 u149 u150 u151 u152 u153 u154 u155 u156 u157 u158 u159 u160 u161 u162 u163 u164 u165 u166 u167 u168 u169 u170 u171 u172 u173 u174 u175 u176 u177 u178 u179 u180 u181 u182 u183 u184 u185 u186 u187 u188 u189 u190 u191 u192 u193 u194 : Value} (hn : n < 0) (H55 : Hid (∀ W : World, Calls Try.prog 55 #[.agg #[.bool na, .string sa], .int .i64 n] W (Calm W (.tuple #[(.agg #[.bool false, .string ⟨#[]⟩]), .int .i64 2])))) (HW : Hid (∀ W : World, Calls Try.prog 13 #[] W (fun e w' => e = .returned (.bool true) ∧ Below W.heap.size W w'))) (E0 : Hid (Env w wc [(w.heap.size, 26, #[.bool na, .string sa])])) :
    (codeRest 7 (bodyOf Try.f9)).wp Try.prog (bodyPost Try.prog Try.f9 (fun e w' => e = .returned (.bool true) ∧ Below w.heap.size w w')) ⟨#[.agg #[.bool na, .string sa], .int .i64 n, .pointer (some ⟨w.heap.size, 0, none⟩), u3, u4, u5, u6, u7, u8, u9, u10, u11, u12, u13, u14, u15, u16, u17, u18, u19, u20, u21, u22, u23, u24, u25, u26, u27, u28, u29, u30, u31, u32, u33, u34, u35, u36, u37, u38, u39, u40, u41, u42, u43, u44, u45, u46, u47, u48, u49, u50, u51, u52, u53, u54, u55, u56, u57, u58, u59, u60, u61, u62, u63, u64, u65, u66, u67, u68, u69, u70, u71, u72, u73, u74, u75, u76, u77, u78, u79, u80, u81, u82, u83, u84, u85, u86, u87, u88, u89, u90, u91, u92, u93, u94, u95, u96, u97, u98, u99, u100, u101, u102, u103, u104, u105, u106, u107, u108, u109, u110, u111, u112, u113, u114, u115, u116, u117, u118, u119, u120, u121, u122, u123, u124, u125, u126, u127, u128, u129, u130, u131, u132, u133, u134, u135, u136, u137, u138, u139, u140, u141, u142, u143, u144, u145, u146, u147, u148, u149, u150, u151, u152, u153, u154, u155, u156, u157, u158, u159, u160, u161, u162, u163, u164, u165, u166, u167, u168, u169, u170, u171, u172, u173, u174, u175, u176, u177, u178, u179, u180, u181, u182, u183, u184, u185, u186, u187, u188, u189, u190, u191, u192, u193, u194], []⟩ wc := by
  conv => enter [2]; dsimp only [codeRest, bodyOf, Try.f9, Option.getD_some]
  have HA := Lib.hid (fun W : World => arg_any (w := W))
  go_upto_region 16 with fail
  have q0_0 : wc.cell? ⟨w.heap.size, 0, none⟩ = some (.bool na) := (Env.at_ E0.out 0 rfl).cell 0
  have q0_1 : wc.cell? ⟨w.heap.size, 1, none⟩ = some (.string sa) := (Env.at_ E0.out 0 rfl).cell 1
  go_wp2_with fail
  refine (H55.out _).mono ?_
  rintro e w1 ⟨rfl, h1⟩
  have E2 := Lib.hid (E0.out.call h1)
  clear q0_0 q0_1 h1
  go_upto_region 18 with fail
  have E3 : Hid (Env w (w1.alloc (.cells #[.bool false, .string ⟨#[]⟩] 26)) [(w1.heap.size, 26, #[.bool false, .string ⟨#[]⟩]), (w.heap.size, 26, #[.bool na, .string sa])]) := Lib.hid (by have h := (Env.new E2.out 26 #[.bool false, .string ⟨#[]⟩]); (try simp only [World.size_alloc] at h); exact h)
  generalize (w1.alloc (.cells #[.bool false, .string ⟨#[]⟩] 26)) = W3 at E3 ⊢
  have q0_0 : W3.cell? ⟨w1.heap.size, 0, none⟩ = some (.bool false) := (Env.at_ E3.out 0 rfl).cell 0
  have q0_1 : W3.cell? ⟨w1.heap.size, 1, none⟩ = some (.string ⟨#[]⟩) := (Env.at_ E3.out 0 rfl).cell 1
  go_wp2_with fail
  refine (HA.out _).mono ?_
  rintro e w4 ⟨rfl, h4⟩
  have E5 := Lib.hid (E3.out.call h4)
  clear q0_0 q0_1 h4
  go_wp2_with fail
  refine (HW.out _).mono ?_
  rintro e w6 ⟨rfl, h6⟩
  have E7 := Lib.hid (E5.out.call h6)
  clear h6
  go_wp2_with fail
  go_ret
  exact ⟨rfl, E7.out.1⟩
set_option maxRecDepth 100000 in
set_option maxHeartbeats 8000000 in
theorem roots_p_vast {w wc : World} {na : Bool} {sa : ByteArray} {n : Nat} {u3 u4 u5 u6 u7 u8 u9 u10 u11 u12 u13 u14 u15 u16 u17 u18 u19 u20 u21 u22 u23 u24 u25 u26 u27 u28 u29 u30 u31 u32 u33 u34 u35 u36 u37 u38 u39 u40 u41 u42 u43 u44 u45 u46 u47 u48 u49 u50 u51 u52 u53 u54 u55 u56 u57 u58 u59 u60 u61 u62 u63 u64 u65 u66 u67 u68 u69 u70 u71 u72 u73 u74 u75 u76 u77 u78 u79 u80 u81 u82 u83 u84 u85 u86 u87 u88 u89 u90 u91 u92 u93 u94 u95 u96 u97 u98 u99 u100 u101 u102 u103 u104 u105 u106 u107 u108 u109 u110 u111 u112 u113 u114 u115 u116 u117 u118 u119 u120 u121 u122 u123 u124 u125 u126 u127 u128 u129 u130 u131 u132 u133 u134 u135 u136 u137 u138 u139 u140 u141 u142 u143 u144 u145 u146 u147 u148 u149 u150 u151 u152 u153 u154 u155 u156 u157 u158 u159 u160 u161 u162 u163 u164 u165 u166 u167 u168 u169 u170 u171 u172 u173 u174 u175 u176 u177 u178 u179 u180 u181 u182 u183 u184 u185 u186 u187 u188 u189 u190 u191 u192 u193 u194 : Value} (H55 : Hid (∀ W : World, Calls Try.prog 55 #[.agg #[.bool na, .string sa], .int .i64 (n : Int)] W (Calm W (.tuple #[(.agg #[.bool false, .string ⟨#[]⟩]), .int .i64 4])))) (H57 : Hid (∀ W : World, Calls Try.prog 57 #[.agg #[.bool na, .string sa], .int .i64 (n : Int)] W (Calm W (.bool true)))) (HW : Hid (∀ W : World, Calls Try.prog 13 #[] W (fun e w' => e = .returned (.bool true) ∧ Below W.heap.size W w'))) (HN : Hid (∀ (W : World) (n : Int), Calls Try.prog 23 #[.int .i64 n] W (fun e w' => e = .returned (.int .i64 n) ∧ W = w'))) (E0 : Hid (Env w wc [(w.heap.size, 26, #[.bool na, .string sa])])) :
    (codeRest 7 (bodyOf Try.f9)).wp Try.prog (bodyPost Try.prog Try.f9 (fun e w' => e = .returned (.bool true) ∧ Below w.heap.size w w')) ⟨#[.agg #[.bool na, .string sa], .int .i64 (n : Int), .pointer (some ⟨w.heap.size, 0, none⟩), u3, u4, u5, u6, u7, u8, u9, u10, u11, u12, u13, u14, u15, u16, u17, u18, u19, u20, u21, u22, u23, u24, u25, u26, u27, u28, u29, u30, u31, u32, u33, u34, u35, u36, u37, u38, u39, u40, u41, u42, u43, u44, u45, u46, u47, u48, u49, u50, u51, u52, u53, u54, u55, u56, u57, u58, u59, u60, u61, u62, u63, u64, u65, u66, u67, u68, u69, u70, u71, u72, u73, u74, u75, u76, u77, u78, u79, u80, u81, u82, u83, u84, u85, u86, u87, u88, u89, u90, u91, u92, u93, u94, u95, u96, u97, u98, u99, u100, u101, u102, u103, u104, u105, u106, u107, u108, u109, u110, u111, u112, u113, u114, u115, u116, u117, u118, u119, u120, u121, u122, u123, u124, u125, u126, u127, u128, u129, u130, u131, u132, u133, u134, u135, u136, u137, u138, u139, u140, u141, u142, u143, u144, u145, u146, u147, u148, u149, u150, u151, u152, u153, u154, u155, u156, u157, u158, u159, u160, u161, u162, u163, u164, u165, u166, u167, u168, u169, u170, u171, u172, u173, u174, u175, u176, u177, u178, u179, u180, u181, u182, u183, u184, u185, u186, u187, u188, u189, u190, u191, u192, u193, u194], []⟩ wc := by
  conv => enter [2]; dsimp only [codeRest, bodyOf, Try.f9, Option.getD_some]
  go_upto_region 16 with fail
  have q0_0 : wc.cell? ⟨w.heap.size, 0, none⟩ = some (.bool na) := (Env.at_ E0.out 0 rfl).cell 0
  have q0_1 : wc.cell? ⟨w.heap.size, 1, none⟩ = some (.string sa) := (Env.at_ E0.out 0 rfl).cell 1
  go_wp2_with fail
  refine (H55.out _).mono ?_
  rintro e w1 ⟨rfl, h1⟩
  have E2 := Lib.hid (E0.out.call h1)
  clear q0_0 q0_1 h1
  go_upto_region 19 with fail
  have E3 : Hid (Env w (w1.alloc (.cells #[.bool false, .string ⟨#[]⟩] 26)) [(w1.heap.size, 26, #[.bool false, .string ⟨#[]⟩]), (w.heap.size, 26, #[.bool na, .string sa])]) := Lib.hid (by have h := (Env.new E2.out 26 #[.bool false, .string ⟨#[]⟩]); (try simp only [World.size_alloc] at h); exact h)
  generalize (w1.alloc (.cells #[.bool false, .string ⟨#[]⟩] 26)) = W3 at E3 ⊢
  have q0_0 : W3.cell? ⟨w.heap.size, 0, none⟩ = some (.bool na) := (Env.at_ E3.out 1 rfl).cell 0
  have q0_1 : W3.cell? ⟨w.heap.size, 1, none⟩ = some (.string sa) := (Env.at_ E3.out 1 rfl).cell 1
  go_wp2_with fail
  refine (H57.out _).mono ?_
  rintro e w4 ⟨rfl, h4⟩
  have E5 := Lib.hid (E3.out.call h4)
  clear q0_0 q0_1 h4
  go_upto_region 20 with fail
  have q0_0 : w4.cell? ⟨w1.heap.size, 0, none⟩ = some (.bool false) := (Env.at_ E5.out 0 rfl).cell 0
  have q0_1 : w4.cell? ⟨w1.heap.size, 1, none⟩ = some (.string ⟨#[]⟩) := (Env.at_ E5.out 0 rfl).cell 1
  go_wp2_with fail
  refine (HN.out _ 4).mono ?_
  rintro e w6 ⟨rfl, h6⟩
  subst h6
  have E7 := Lib.hid (E5.out)
  clear q0_0 q0_1
  go_wp2_with fail
  refine (HW.out _).mono ?_
  rintro e w8 ⟨rfl, h8⟩
  have E9 := Lib.hid (E7.out.call h8)
  clear h8
  go_wp2_with fail
  go_ret
  exact ⟨rfl, E9.out.1⟩
set_option maxRecDepth 100000 in
set_option maxHeartbeats 8000000 in
theorem roots_p_go {w wc : World} {na : Bool} {sa : ByteArray} {n : Nat} {sp sz : Bool} {bp bz : ByteArray} {ce : Int} {u3 u4 u5 u6 u7 u8 u9 u10 u11 u12 u13 u14 u15 u16 u17 u18 u19 u20 u21 u22 u23 u24 u25 u26 u27 u28 u29 u30 u31 u32 u33 u34 u35 u36 u37 u38 u39 u40 u41 u42 u43 u44 u45 u46 u47 u48 u49 u50 u51 u52 u53 u54 u55 u56 u57 u58 u59 u60 u61 u62 u63 u64 u65 u66 u67 u68 u69 u70 u71 u72 u73 u74 u75 u76 u77 u78 u79 u80 u81 u82 u83 u84 u85 u86 u87 u88 u89 u90 u91 u92 u93 u94 u95 u96 u97 u98 u99 u100 u101 u102 u103 u104 u105 u106 u107 u108 u109 u110 u111 u112 u113 u114 u115 u116 u117 u118 u119 u120 u121 u122 u123 u124 u125 u126 u127 u128 u129 u130 u131 u132 u133 u134 u135 u136 u137 u138 u139 u140 u141 u142 u143 u144 u145 u146 u147 u148 u149 u150 u151 u152 u153 u154 u155 u156 u157 u158 u159 u160 u161 u162 u163 u164 u165 u166 u167 u168 u169 u170 u171 u172 u173 u174 u175 u176 u177 u178 u179 u180 u181 u182 u183 u184 u185 u186 u187 u188 u189 u190 u191 u192 u193 u194 : Value} (H55 : Hid (∀ W : World, Calls Try.prog 55 #[.agg #[.bool na, .string sa], .int .i64 (n : Int)] W (Calm W (.tuple #[.agg #[.bool sp, .string bp], .int .i64 ce])))) (H57 : Hid (∀ W : World, Calls Try.prog 57 #[.agg #[.bool na, .string sa], .int .i64 (n : Int)] W (Calm W (.bool false)))) (H58 : Hid (∀ W : World, Calls Try.prog 58 #[.agg #[.bool na, .string sa], .int .i64 (n : Int)] W (Calm W (.agg #[.bool sz, .string bz])))) (H20 : Hid (∀ W : World, Calls Try.prog 20 #[.agg #[.bool sp, .string bp], .int .i64 ce, .agg #[.bool sz, .string bz]] W (Calm W (.bool true)))) (HW : Hid (∀ W : World, Calls Try.prog 13 #[] W (fun e w' => e = .returned (.bool true) ∧ Below W.heap.size W w'))) (E0 : Hid (Env w wc [(w.heap.size, 26, #[.bool na, .string sa])])) :
    (codeRest 7 (bodyOf Try.f9)).wp Try.prog (bodyPost Try.prog Try.f9 (fun e w' => e = .returned (.bool true) ∧ Below w.heap.size w w')) ⟨#[.agg #[.bool na, .string sa], .int .i64 (n : Int), .pointer (some ⟨w.heap.size, 0, none⟩), u3, u4, u5, u6, u7, u8, u9, u10, u11, u12, u13, u14, u15, u16, u17, u18, u19, u20, u21, u22, u23, u24, u25, u26, u27, u28, u29, u30, u31, u32, u33, u34, u35, u36, u37, u38, u39, u40, u41, u42, u43, u44, u45, u46, u47, u48, u49, u50, u51, u52, u53, u54, u55, u56, u57, u58, u59, u60, u61, u62, u63, u64, u65, u66, u67, u68, u69, u70, u71, u72, u73, u74, u75, u76, u77, u78, u79, u80, u81, u82, u83, u84, u85, u86, u87, u88, u89, u90, u91, u92, u93, u94, u95, u96, u97, u98, u99, u100, u101, u102, u103, u104, u105, u106, u107, u108, u109, u110, u111, u112, u113, u114, u115, u116, u117, u118, u119, u120, u121, u122, u123, u124, u125, u126, u127, u128, u129, u130, u131, u132, u133, u134, u135, u136, u137, u138, u139, u140, u141, u142, u143, u144, u145, u146, u147, u148, u149, u150, u151, u152, u153, u154, u155, u156, u157, u158, u159, u160, u161, u162, u163, u164, u165, u166, u167, u168, u169, u170, u171, u172, u173, u174, u175, u176, u177, u178, u179, u180, u181, u182, u183, u184, u185, u186, u187, u188, u189, u190, u191, u192, u193, u194], []⟩ wc := by
  conv => enter [2]; dsimp only [codeRest, bodyOf, Try.f9, Option.getD_some]
  go_upto_region 16 with fail
  have q0_0 : wc.cell? ⟨w.heap.size, 0, none⟩ = some (.bool na) := (Env.at_ E0.out 0 rfl).cell 0
  have q0_1 : wc.cell? ⟨w.heap.size, 1, none⟩ = some (.string sa) := (Env.at_ E0.out 0 rfl).cell 1
  go_wp2_with fail
  refine (H55.out _).mono ?_
  rintro e w1 ⟨rfl, h1⟩
  have E2 := Lib.hid (E0.out.call h1)
  clear q0_0 q0_1 h1
  go_upto_region 19 with fail
  have E3 : Hid (Env w (w1.alloc (.cells #[.bool sp, .string bp] 26)) [(w1.heap.size, 26, #[.bool sp, .string bp]), (w.heap.size, 26, #[.bool na, .string sa])]) := Lib.hid (by have h := (Env.new E2.out 26 #[.bool sp, .string bp]); (try simp only [World.size_alloc] at h); exact h)
  generalize (w1.alloc (.cells #[.bool sp, .string bp] 26)) = W3 at E3 ⊢
  have q0_0 : W3.cell? ⟨w.heap.size, 0, none⟩ = some (.bool na) := (Env.at_ E3.out 1 rfl).cell 0
  have q0_1 : W3.cell? ⟨w.heap.size, 1, none⟩ = some (.string sa) := (Env.at_ E3.out 1 rfl).cell 1
  go_wp2_with fail
  refine (H57.out _).mono ?_
  rintro e w4 ⟨rfl, h4⟩
  have E5 := Lib.hid (E3.out.call h4)
  clear q0_0 q0_1 h4
  go_upto_region 21 with fail
  skip
  refine wp_region_noPanic ?_
  refine wp_region_held_drew (S := fun w' => Env w w' [(w1.heap.size, 26, #[.bool sp, .string bp]), (w.heap.size, 26, #[.bool na, .string sa])]) (by kernel_rfl) (Env.drew E5.out) (fun hHeld => ?_)
  refine wpAnyH_take (i := 0) (oi := Oper.mk (some 186) _ _ _ _ _) (v := ?_) rfl (by kernel_rfl) (by kernel_rfl) (by kernel_rfl) (fun _ _ _ h => h) (Or.inl ⟨by rfl, ?_⟩) (by assumption) ?_
  rotate_left
  · (intro w' hSw; (try dsimp only at hSw); have a0 : w'.cell? ⟨w1.heap.size, 0, none⟩ = some (.bool sp) := (Env.at_ hSw 0 rfl).cell 0; have a1 : w'.cell? ⟨w1.heap.size, 1, none⟩ = some (.string bp) := (Env.at_ hSw 0 rfl).cell 1; go_simp; try with_reducible rfl)
  try simp only [Act.put, List.setIfInBounds_toArray, List.set_cons_zero, List.set_cons_succ]
  refine wpAnyH_take (i := 1) (oi := Oper.mk (some 187) _ _ _ _ _) (v := ?_) rfl (by kernel_rfl) (by kernel_rfl) (by kernel_rfl) (fun _ _ _ h => h) (Or.inl ⟨by rfl, ?_⟩) (by assumption) ?_
  rotate_left
  · (intro w' hSw; (try dsimp only at hSw); go_simp; try with_reducible rfl)
  try simp only [Act.put, List.setIfInBounds_toArray, List.set_cons_zero, List.set_cons_succ]
  refine wpAnyH_take (i := 2) (oi := Oper.mk (some 188) _ _ _ _ _) (v := ?_) rfl (by kernel_rfl) (by kernel_rfl) (by kernel_rfl) (fun _ _ _ h => h) (Or.inl ⟨by rfl, ?_⟩) (by assumption) ?_
  rotate_left
  · (intro w' hSw; (try dsimp only at hSw); have a0 : w'.cell? ⟨w.heap.size, 0, none⟩ = some (.bool na) := (Env.at_ hSw 1 rfl).cell 0; have a1 : w'.cell? ⟨w.heap.size, 1, none⟩ = some (.string sa) := (Env.at_ hSw 1 rfl).cell 1; go_simp; try with_reducible rfl)
  try simp only [Act.put, List.setIfInBounds_toArray, List.set_cons_zero, List.set_cons_succ]
  refine wpAnyH_take (i := 3) (oi := Oper.mk (some 189) _ _ _ _ _) (v := ?_) rfl (by kernel_rfl) (by kernel_rfl) (by kernel_rfl) (fun _ _ _ h => h) (Or.inl ⟨by rfl, ?_⟩) (by assumption) ?_
  rotate_left
  · (intro w' hSw; (try dsimp only at hSw); go_simp; try with_reducible rfl)
  try simp only [Act.put, List.setIfInBounds_toArray, List.set_cons_zero, List.set_cons_succ]
  refine wpAnyH_ready (rs := [4]) (by kernel_rfl) (by simp) ?_
  refine AllReadyH.cons (o := Oper.mk (some 190) _ _ _ _ _) rfl (fun K hK => ?_) AllReadyH.nil
  go_simp
  refine (H58.out _).mono ?_
  rintro e w6 ⟨rfl, h6⟩
  have hNext := hHeld.call h6
  refine hK.out _ _ hNext (fun _ => ?_)
  clear hK K hHeld h6
  have hHeld := hNext
  clear hNext
  try simp only [Act.put, List.setIfInBounds_toArray, List.set_cons_zero, List.set_cons_succ]
  refine wpAnyH_ready (rs := [5]) (by kernel_rfl) (by simp) ?_
  refine AllReadyH.cons (o := Oper.mk (some 191) _ _ _ _ _) rfl (fun K hK => ?_) AllReadyH.nil
  go_simp
  refine (H20.out _).mono ?_
  rintro e w7 ⟨rfl, h7⟩
  have hNext := hHeld.call h7
  refine hK.out _ _ hNext (fun _ => ?_)
  clear hK K hHeld h7
  have hHeld := hNext
  clear hNext
  try simp only [Act.put, List.setIfInBounds_toArray, List.set_cons_zero, List.set_cons_succ]
  refine wpAnyH_take (i := 6) (oi := Oper.mk (some 192) _ _ _ _ _) (v := ?_) rfl (by kernel_rfl) (by kernel_rfl) (by kernel_rfl) (fun _ _ _ h => h) (Or.inl ⟨by rfl, ?_⟩) (by assumption) ?_
  rotate_left
  · (intro w' hSw; (try dsimp only at hSw); go_simp; try with_reducible rfl)
  try simp only [Act.put, List.setIfInBounds_toArray, List.set_cons_zero, List.set_cons_succ]
  refine wpAnyH_ready (rs := [7]) (by kernel_rfl) (by simp) ?_
  refine AllReadyH.cons (o := Oper.mk (some 193) _ _ _ _ _) rfl (fun K hK => ?_) AllReadyH.nil
  go_simp
  refine (HW.out _).mono ?_
  rintro e w8 ⟨rfl, h8⟩
  have hNext := hHeld.call h8
  refine hK.out _ _ hNext (fun _ => ?_)
  clear hK K hHeld h8
  have hHeld := hNext
  clear hNext
  try simp only [Act.put, List.setIfInBounds_toArray, List.set_cons_zero, List.set_cons_succ]
  refine wpAnyH_take (i := 8) (oi := Oper.mk (some 194) _ _ _ _ _) (v := ?_) rfl (by kernel_rfl) (by kernel_rfl) (by kernel_rfl) (fun _ _ _ h => h) (Or.inl ⟨by rfl, ?_⟩) (by assumption) ?_
  rotate_left
  · (intro w' hSw; (try dsimp only at hSw); go_simp; try with_reducible rfl)
  try simp only [Act.put, List.setIfInBounds_toArray, List.set_cons_zero, List.set_cons_succ]
  refine wpAnyH_take (i := 9) (oi := Oper.mk (some 4) _ _ _ _ _) (v := ?_) rfl (by kernel_rfl) (by kernel_rfl) (by kernel_rfl) (fun _ _ _ h => h) (Or.inl ⟨by rfl, ?_⟩) (by assumption) ?_
  rotate_left
  · (intro w' hSw; (try dsimp only at hSw); go_simp; try with_reducible rfl)
  try simp only [Act.put, List.setIfInBounds_toArray, List.set_cons_zero, List.set_cons_succ]
  refine wpAnyH_done (by kernel_rfl) ?_ _
  refine NoPanic.normal ?_
  have E9 := Lib.hid hHeld
  clear hHeld
  go_wp2_with fail
  go_ret
  exact ⟨rfl, E9.out.1⟩
set_option maxRecDepth 100000 in
set_option maxHeartbeats 8000000 in
theorem roots_neg_n {w wc : World} {na : Bool} {sa : ByteArray} {n : Int} {u3 u4 u5 u6 u7 u8 u9 u10 u11 u12 u13 u14 u15 u16 u17 u18 u19 u20 u21 u22 u23 u24 u25 u26 u27 u28 u29 u30 u31 u32 u33 u34 u35 u36 u37 u38 u39 u40 u41 u42 u43 u44 u45 u46 u47 u48 u49 u50 u51 u52 u53 u54 u55 u56 u57 u58 u59 u60 u61 u62 u63 u64 u65 u66 u67 u68 u69 u70 u71 u72 u73 u74 u75 u76 u77 u78 u79 u80 u81 u82 u83 u84 u85 u86 u87 u88 u89 u90 u91 u92 u93 u94 u95 u96 u97 u98 u99 u100 u101 u102 u103 u104 u105 u106 u107 u108 u109 u110 u111 u112 u113 u114 u115 u116 u117 u118 u119 u120 u121 u122 u123 u124 u125 u126 u127 u128 u129 u130 u131 u132 u133 u134 u135 u136 u137 u138 u139 u140 u141 u142 u143 u144 u145 u146 u147 u148 u149 u150 u151 u152 u153 u154 u155 u156 u157 u158 u159 u160 u161 u162 u163 u164 u165 u166 u167 u168 u169 u170 u171 u172 u173 u174 u175 u176 u177 u178 u179 u180 u181 u182 u183 u184 u185 u186 u187 u188 u189 u190 u191 u192 u193 u194 : Value} (hm : MayL na sa.data.toList) (hn0 : n < 0) (hn1 : -9223372036854775808 ≤ n) (hn2 : n ≤ 9223372036854775807) (HW : Hid (∀ W : World, Calls Try.prog 13 #[] W (fun e w' => e = .returned (.bool true) ∧ Below W.heap.size W w'))) (HN : Hid (∀ (W : World) (n : Int), Calls Try.prog 23 #[.int .i64 n] W (fun e w' => e = .returned (.int .i64 n) ∧ W = w'))) (E0 : Hid (Env w wc [(w.heap.size, 26, #[.bool na, .string sa])])) :
    (codeRest 6 (bodyOf Try.f9)).wp Try.prog (bodyPost Try.prog Try.f9 (fun e w' => e = .returned (.bool true) ∧ Below w.heap.size w w')) ⟨#[.agg #[.bool na, .string sa], .int .i64 n, .pointer (some ⟨w.heap.size, 0, none⟩), u3, u4, u5, u6, u7, u8, u9, u10, u11, u12, u13, u14, u15, u16, u17, u18, u19, u20, u21, u22, u23, u24, u25, u26, u27, u28, u29, u30, u31, u32, u33, u34, u35, u36, u37, u38, u39, u40, u41, u42, u43, u44, u45, u46, u47, u48, u49, u50, u51, u52, u53, u54, u55, u56, u57, u58, u59, u60, u61, u62, u63, u64, u65, u66, u67, u68, u69, u70, u71, u72, u73, u74, u75, u76, u77, u78, u79, u80, u81, u82, u83, u84, u85, u86, u87, u88, u89, u90, u91, u92, u93, u94, u95, u96, u97, u98, u99, u100, u101, u102, u103, u104, u105, u106, u107, u108, u109, u110, u111, u112, u113, u114, u115, u116, u117, u118, u119, u120, u121, u122, u123, u124, u125, u126, u127, u128, u129, u130, u131, u132, u133, u134, u135, u136, u137, u138, u139, u140, u141, u142, u143, u144, u145, u146, u147, u148, u149, u150, u151, u152, u153, u154, u155, u156, u157, u158, u159, u160, u161, u162, u163, u164, u165, u166, u167, u168, u169, u170, u171, u172, u173, u174, u175, u176, u177, u178, u179, u180, u181, u182, u183, u184, u185, u186, u187, u188, u189, u190, u191, u192, u193, u194], []⟩ wc := by
  conv => enter [2]; dsimp only [codeRest, bodyOf, Try.f9, Option.getD_some]
  have H55 := Lib.hid (fun W : World => pow_bad (w := W) (na := na) (sa := sa) hn2 (fun h => absurd h.2 (by omega)))
  have hd : decide (0 < n) = false := decide_eq_false (by omega)
  clear hm hn1 hn2
  go_upto_if 156 with fail
  go_cut [] (fun wx => Env w wx [(w.heap.size, 26, #[.bool na, .string sa])])
  case first =>
    go_wp2_with fail
    go_meet
    case rel => exact E0.out
  case rest =>
    go_step
    exact roots_p_neg hn0 H55 HW (Lib.hid hcut)
set_option maxRecDepth 100000 in
set_option maxHeartbeats 8000000 in
theorem roots_vast {w wc : World} {na : Bool} {sa : ByteArray} {n : Nat} {u3 u4 u5 u6 u7 u8 u9 u10 u11 u12 u13 u14 u15 u16 u17 u18 u19 u20 u21 u22 u23 u24 u25 u26 u27 u28 u29 u30 u31 u32 u33 u34 u35 u36 u37 u38 u39 u40 u41 u42 u43 u44 u45 u46 u47 u48 u49 u50 u51 u52 u53 u54 u55 u56 u57 u58 u59 u60 u61 u62 u63 u64 u65 u66 u67 u68 u69 u70 u71 u72 u73 u74 u75 u76 u77 u78 u79 u80 u81 u82 u83 u84 u85 u86 u87 u88 u89 u90 u91 u92 u93 u94 u95 u96 u97 u98 u99 u100 u101 u102 u103 u104 u105 u106 u107 u108 u109 u110 u111 u112 u113 u114 u115 u116 u117 u118 u119 u120 u121 u122 u123 u124 u125 u126 u127 u128 u129 u130 u131 u132 u133 u134 u135 u136 u137 u138 u139 u140 u141 u142 u143 u144 u145 u146 u147 u148 u149 u150 u151 u152 u153 u154 u155 u156 u157 u158 u159 u160 u161 u162 u163 u164 u165 u166 u167 u168 u169 u170 u171 u172 u173 u174 u175 u176 u177 u178 u179 u180 u181 u182 u183 u184 u185 u186 u187 u188 u189 u190 u191 u192 u193 u194 : Value} (hm : MayL na sa.data.toList) (hn2 : n ≤ 9223372036854775807) (hv : vast (num (na, sa)).natAbs n = true) (HW : Hid (∀ W : World, Calls Try.prog 13 #[] W (fun e w' => e = .returned (.bool true) ∧ Below W.heap.size W w'))) (HN : Hid (∀ (W : World) (n : Int), Calls Try.prog 23 #[.int .i64 n] W (fun e w' => e = .returned (.int .i64 n) ∧ W = w'))) (E0 : Hid (Env w wc [(w.heap.size, 26, #[.bool na, .string sa])])) :
    (codeRest 6 (bodyOf Try.f9)).wp Try.prog (bodyPost Try.prog Try.f9 (fun e w' => e = .returned (.bool true) ∧ Below w.heap.size w w')) ⟨#[.agg #[.bool na, .string sa], .int .i64 (n : Int), .pointer (some ⟨w.heap.size, 0, none⟩), u3, u4, u5, u6, u7, u8, u9, u10, u11, u12, u13, u14, u15, u16, u17, u18, u19, u20, u21, u22, u23, u24, u25, u26, u27, u28, u29, u30, u31, u32, u33, u34, u35, u36, u37, u38, u39, u40, u41, u42, u43, u44, u45, u46, u47, u48, u49, u50, u51, u52, u53, u54, u55, u56, u57, u58, u59, u60, u61, u62, u63, u64, u65, u66, u67, u68, u69, u70, u71, u72, u73, u74, u75, u76, u77, u78, u79, u80, u81, u82, u83, u84, u85, u86, u87, u88, u89, u90, u91, u92, u93, u94, u95, u96, u97, u98, u99, u100, u101, u102, u103, u104, u105, u106, u107, u108, u109, u110, u111, u112, u113, u114, u115, u116, u117, u118, u119, u120, u121, u122, u123, u124, u125, u126, u127, u128, u129, u130, u131, u132, u133, u134, u135, u136, u137, u138, u139, u140, u141, u142, u143, u144, u145, u146, u147, u148, u149, u150, u151, u152, u153, u154, u155, u156, u157, u158, u159, u160, u161, u162, u163, u164, u165, u166, u167, u168, u169, u170, u171, u172, u173, u174, u175, u176, u177, u178, u179, u180, u181, u182, u183, u184, u185, u186, u187, u188, u189, u190, u191, u192, u193, u194], []⟩ wc := by
  conv => enter [2]; dsimp only [codeRest, bodyOf, Try.f9, Option.getD_some]
  have H57 := Lib.hid (fun W : World => rvast_any (w := W) hm hn2)
  rw [hv] at H57
  have H55 := Lib.hid (fun W : World => pow_no (w := W) hn2 hm (fun h => not_vast hv (by unfold fits at h; rwa [Int.natAbs_pow] at h)))
  have hn0 : 0 < n := by
    rcases Nat.eq_zero_or_pos n with h | h
    · exfalso; subst h; unfold vast at hv; rw [Nat.zero_mul] at hv; simp at hv
    · exact h
  clear hm hv
  have q2_0 := (Env.at_ E0.out 0 rfl).cell 0
  have q2_1 := (Env.at_ E0.out 0 rfl).cell 1
  simp at q2_0 q2_1
  go_wp2_with fail
  refine (H57.out _).mono ?_
  rintro e w9 ⟨rfl, hb9⟩
  have E9 := Lib.hid (Env.call E0.out hb9)
  clear hb9 q2_0 q2_1
  go_upto_if 156 with fail
  go_cut [] (fun wx => Env w wx [(w.heap.size, 26, #[.bool na, .string sa])])
  case first =>
    go_wp2_with fail
    go_meet
    case rel => exact E9.out
  case rest =>
    go_step
    exact roots_p_vast H55 H57 HW HN (Lib.hid hcut)
set_option maxRecDepth 100000 in
set_option maxHeartbeats 8000000 in
theorem roots_go_0 {w wc : World} {na : Bool} {sa : ByteArray} {n : Nat} {sp sz : Bool} {bp bz : ByteArray} {ce : Int} {u3 u4 u5 u6 u7 u8 u9 u10 u11 u12 u13 u14 u15 u16 u17 u18 u19 u20 u21 u22 u23 u24 u25 u26 u27 u28 u29 u30 u31 u32 u33 u34 u35 u36 u37 u38 u39 u40 u41 u42 u43 u44 u45 u46 u47 u48 u49 u50 u51 u52 u53 u54 u55 u56 u57 u58 u59 u60 u61 u62 u63 u64 u65 u66 u67 u68 u69 u70 u71 u72 u73 u74 u75 u76 u77 u78 u79 u80 u81 u82 u83 u84 u85 u86 u87 u88 u89 u90 u91 u92 u93 u94 u95 u96 u97 u98 u99 u100 u101 u102 u103 u104 u105 u106 u107 u108 u109 u110 u111 u112 u113 u114 u115 u116 u117 u118 u119 u120 u121 u122 u123 u124 u125 u126 u127 u128 u129 u130 u131 u132 u133 u134 u135 u136 u137 u138 u139 u140 u141 u142 u143 u144 u145 u146 u147 u148 u149 u150 u151 u152 u153 u154 u155 u156 u157 u158 u159 u160 u161 u162 u163 u164 u165 u166 u167 u168 u169 u170 u171 u172 u173 u174 u175 u176 u177 u178 u179 u180 u181 u182 u183 u184 u185 u186 u187 u188 u189 u190 u191 u192 u193 u194 : Value} (hn : n = 0) (H55 : Hid (∀ W : World, Calls Try.prog 55 #[.agg #[.bool na, .string sa], .int .i64 (n : Int)] W (Calm W (.tuple #[.agg #[.bool sp, .string bp], .int .i64 ce])))) (H57 : Hid (∀ W : World, Calls Try.prog 57 #[.agg #[.bool na, .string sa], .int .i64 (n : Int)] W (Calm W (.bool false)))) (H58 : Hid (∀ W : World, Calls Try.prog 58 #[.agg #[.bool na, .string sa], .int .i64 (n : Int)] W (Calm W (.agg #[.bool sz, .string bz])))) (H20 : Hid (∀ W : World, Calls Try.prog 20 #[.agg #[.bool sp, .string bp], .int .i64 ce, .agg #[.bool sz, .string bz]] W (Calm W (.bool true)))) (HW : Hid (∀ W : World, Calls Try.prog 13 #[] W (fun e w' => e = .returned (.bool true) ∧ Below W.heap.size W w'))) (E0 : Hid (Env w wc [(w.heap.size, 26, #[.bool na, .string sa])])) :
    (codeRest 6 (bodyOf Try.f9)).wp Try.prog (bodyPost Try.prog Try.f9 (fun e w' => e = .returned (.bool true) ∧ Below w.heap.size w w')) ⟨#[.agg #[.bool na, .string sa], .int .i64 (n : Int), .pointer (some ⟨w.heap.size, 0, none⟩), u3, u4, u5, u6, u7, u8, u9, u10, u11, u12, u13, u14, u15, u16, u17, u18, u19, u20, u21, u22, u23, u24, u25, u26, u27, u28, u29, u30, u31, u32, u33, u34, u35, u36, u37, u38, u39, u40, u41, u42, u43, u44, u45, u46, u47, u48, u49, u50, u51, u52, u53, u54, u55, u56, u57, u58, u59, u60, u61, u62, u63, u64, u65, u66, u67, u68, u69, u70, u71, u72, u73, u74, u75, u76, u77, u78, u79, u80, u81, u82, u83, u84, u85, u86, u87, u88, u89, u90, u91, u92, u93, u94, u95, u96, u97, u98, u99, u100, u101, u102, u103, u104, u105, u106, u107, u108, u109, u110, u111, u112, u113, u114, u115, u116, u117, u118, u119, u120, u121, u122, u123, u124, u125, u126, u127, u128, u129, u130, u131, u132, u133, u134, u135, u136, u137, u138, u139, u140, u141, u142, u143, u144, u145, u146, u147, u148, u149, u150, u151, u152, u153, u154, u155, u156, u157, u158, u159, u160, u161, u162, u163, u164, u165, u166, u167, u168, u169, u170, u171, u172, u173, u174, u175, u176, u177, u178, u179, u180, u181, u182, u183, u184, u185, u186, u187, u188, u189, u190, u191, u192, u193, u194], []⟩ wc := by
  conv => enter [2]; dsimp only [codeRest, bodyOf, Try.f9, Option.getD_some]
  have q2_0 := (Env.at_ E0.out 0 rfl).cell 0
  have q2_1 := (Env.at_ E0.out 0 rfl).cell 1
  simp at q2_0 q2_1
  subst hn
  go_upto_if 156 with fail
  go_cut [] (fun wx => Env w wx [(w.heap.size, 26, #[.bool na, .string sa])])
  case first =>
    go_wp2_with fail
    go_meet
    case rel => exact E0.out
  case rest =>
    go_step
    exact roots_p_go H55 H57 H58 H20 HW (Lib.hid hcut)
set_option maxRecDepth 100000 in
set_option maxHeartbeats 8000000 in
theorem roots_go_nil {w wc : World} {na : Bool} {sa : ByteArray} {n : Nat} {sp sz : Bool} {bp bz : ByteArray} {ce : Int} {u3 u4 u5 u6 u7 u8 u9 u10 u11 u12 u13 u14 u15 u16 u17 u18 u19 u20 u21 u22 u23 u24 u25 u26 u27 u28 u29 u30 u31 u32 u33 u34 u35 u36 u37 u38 u39 u40 u41 u42 u43 u44 u45 u46 u47 u48 u49 u50 u51 u52 u53 u54 u55 u56 u57 u58 u59 u60 u61 u62 u63 u64 u65 u66 u67 u68 u69 u70 u71 u72 u73 u74 u75 u76 u77 u78 u79 u80 u81 u82 u83 u84 u85 u86 u87 u88 u89 u90 u91 u92 u93 u94 u95 u96 u97 u98 u99 u100 u101 u102 u103 u104 u105 u106 u107 u108 u109 u110 u111 u112 u113 u114 u115 u116 u117 u118 u119 u120 u121 u122 u123 u124 u125 u126 u127 u128 u129 u130 u131 u132 u133 u134 u135 u136 u137 u138 u139 u140 u141 u142 u143 u144 u145 u146 u147 u148 u149 u150 u151 u152 u153 u154 u155 u156 u157 u158 u159 u160 u161 u162 u163 u164 u165 u166 u167 u168 u169 u170 u171 u172 u173 u174 u175 u176 u177 u178 u179 u180 u181 u182 u183 u184 u185 u186 u187 u188 u189 u190 u191 u192 u193 u194 : Value} (hn0 : 0 < n) (hn2 : n ≤ 9223372036854775807) (hs : sa.size = 0) (H55 : Hid (∀ W : World, Calls Try.prog 55 #[.agg #[.bool na, .string sa], .int .i64 (n : Int)] W (Calm W (.tuple #[.agg #[.bool sp, .string bp], .int .i64 ce])))) (H57 : Hid (∀ W : World, Calls Try.prog 57 #[.agg #[.bool na, .string sa], .int .i64 (n : Int)] W (Calm W (.bool false)))) (H58 : Hid (∀ W : World, Calls Try.prog 58 #[.agg #[.bool na, .string sa], .int .i64 (n : Int)] W (Calm W (.agg #[.bool sz, .string bz])))) (H20 : Hid (∀ W : World, Calls Try.prog 20 #[.agg #[.bool sp, .string bp], .int .i64 ce, .agg #[.bool sz, .string bz]] W (Calm W (.bool true)))) (HW : Hid (∀ W : World, Calls Try.prog 13 #[] W (fun e w' => e = .returned (.bool true) ∧ Below W.heap.size W w'))) (E0 : Hid (Env w wc [(w.heap.size, 26, #[.bool na, .string sa])])) :
    (codeRest 6 (bodyOf Try.f9)).wp Try.prog (bodyPost Try.prog Try.f9 (fun e w' => e = .returned (.bool true) ∧ Below w.heap.size w w')) ⟨#[.agg #[.bool na, .string sa], .int .i64 (n : Int), .pointer (some ⟨w.heap.size, 0, none⟩), u3, u4, u5, u6, u7, u8, u9, u10, u11, u12, u13, u14, u15, u16, u17, u18, u19, u20, u21, u22, u23, u24, u25, u26, u27, u28, u29, u30, u31, u32, u33, u34, u35, u36, u37, u38, u39, u40, u41, u42, u43, u44, u45, u46, u47, u48, u49, u50, u51, u52, u53, u54, u55, u56, u57, u58, u59, u60, u61, u62, u63, u64, u65, u66, u67, u68, u69, u70, u71, u72, u73, u74, u75, u76, u77, u78, u79, u80, u81, u82, u83, u84, u85, u86, u87, u88, u89, u90, u91, u92, u93, u94, u95, u96, u97, u98, u99, u100, u101, u102, u103, u104, u105, u106, u107, u108, u109, u110, u111, u112, u113, u114, u115, u116, u117, u118, u119, u120, u121, u122, u123, u124, u125, u126, u127, u128, u129, u130, u131, u132, u133, u134, u135, u136, u137, u138, u139, u140, u141, u142, u143, u144, u145, u146, u147, u148, u149, u150, u151, u152, u153, u154, u155, u156, u157, u158, u159, u160, u161, u162, u163, u164, u165, u166, u167, u168, u169, u170, u171, u172, u173, u174, u175, u176, u177, u178, u179, u180, u181, u182, u183, u184, u185, u186, u187, u188, u189, u190, u191, u192, u193, u194], []⟩ wc := by
  conv => enter [2]; dsimp only [codeRest, bodyOf, Try.f9, Option.getD_some]
  have q2_0 := (Env.at_ E0.out 0 rfl).cell 0
  have q2_1 := (Env.at_ E0.out 0 rfl).cell 1
  simp at q2_0 q2_1
  have hs1 : (sa.size : Int) = 0 := by omega
  clear hs
  go_wp2_with fail
  refine (H57.out _).mono ?_
  rintro e w9 ⟨rfl, hb9⟩
  have E9 := Lib.hid (Env.call E0.out hb9)
  clear hb9 q2_0 q2_1
  have q2_0 := (Env.at_ E9.out 0 rfl).cell 0
  have q2_1 := (Env.at_ E9.out 0 rfl).cell 1
  simp at q2_0 q2_1
  go_upto_if 156 with fail
  go_cut [] (fun wx => Env w wx [(w.heap.size, 26, #[.bool na, .string sa])])
  case first =>
    go_wp2_with fail
    go_meet
    case rel => exact E9.out
  case rest =>
    go_step
    exact roots_p_go H55 H57 H58 H20 HW (Lib.hid hcut)
set_option maxRecDepth 100000 in
set_option maxHeartbeats 8000000 in
theorem roots_go_one {w wc : World} {na : Bool} {sa : ByteArray} {n : Nat} {sp sz : Bool} {bp bz : ByteArray} {ce : Int} {u3 u4 u5 u6 u7 u8 u9 u10 u11 u12 u13 u14 u15 u16 u17 u18 u19 u20 u21 u22 u23 u24 u25 u26 u27 u28 u29 u30 u31 u32 u33 u34 u35 u36 u37 u38 u39 u40 u41 u42 u43 u44 u45 u46 u47 u48 u49 u50 u51 u52 u53 u54 u55 u56 u57 u58 u59 u60 u61 u62 u63 u64 u65 u66 u67 u68 u69 u70 u71 u72 u73 u74 u75 u76 u77 u78 u79 u80 u81 u82 u83 u84 u85 u86 u87 u88 u89 u90 u91 u92 u93 u94 u95 u96 u97 u98 u99 u100 u101 u102 u103 u104 u105 u106 u107 u108 u109 u110 u111 u112 u113 u114 u115 u116 u117 u118 u119 u120 u121 u122 u123 u124 u125 u126 u127 u128 u129 u130 u131 u132 u133 u134 u135 u136 u137 u138 u139 u140 u141 u142 u143 u144 u145 u146 u147 u148 u149 u150 u151 u152 u153 u154 u155 u156 u157 u158 u159 u160 u161 u162 u163 u164 u165 u166 u167 u168 u169 u170 u171 u172 u173 u174 u175 u176 u177 u178 u179 u180 u181 u182 u183 u184 u185 u186 u187 u188 u189 u190 u191 u192 u193 u194 : Value} (hn0 : 0 < n) (hn2 : n ≤ 9223372036854775807) (hs : sa = ⟨#[1]⟩) (H55 : Hid (∀ W : World, Calls Try.prog 55 #[.agg #[.bool na, .string sa], .int .i64 (n : Int)] W (Calm W (.tuple #[.agg #[.bool sp, .string bp], .int .i64 ce])))) (H57 : Hid (∀ W : World, Calls Try.prog 57 #[.agg #[.bool na, .string sa], .int .i64 (n : Int)] W (Calm W (.bool false)))) (H58 : Hid (∀ W : World, Calls Try.prog 58 #[.agg #[.bool na, .string sa], .int .i64 (n : Int)] W (Calm W (.agg #[.bool sz, .string bz])))) (H20 : Hid (∀ W : World, Calls Try.prog 20 #[.agg #[.bool sp, .string bp], .int .i64 ce, .agg #[.bool sz, .string bz]] W (Calm W (.bool true)))) (HW : Hid (∀ W : World, Calls Try.prog 13 #[] W (fun e w' => e = .returned (.bool true) ∧ Below W.heap.size W w'))) (E0 : Hid (Env w wc [(w.heap.size, 26, #[.bool na, .string sa])])) :
    (codeRest 6 (bodyOf Try.f9)).wp Try.prog (bodyPost Try.prog Try.f9 (fun e w' => e = .returned (.bool true) ∧ Below w.heap.size w w')) ⟨#[.agg #[.bool na, .string sa], .int .i64 (n : Int), .pointer (some ⟨w.heap.size, 0, none⟩), u3, u4, u5, u6, u7, u8, u9, u10, u11, u12, u13, u14, u15, u16, u17, u18, u19, u20, u21, u22, u23, u24, u25, u26, u27, u28, u29, u30, u31, u32, u33, u34, u35, u36, u37, u38, u39, u40, u41, u42, u43, u44, u45, u46, u47, u48, u49, u50, u51, u52, u53, u54, u55, u56, u57, u58, u59, u60, u61, u62, u63, u64, u65, u66, u67, u68, u69, u70, u71, u72, u73, u74, u75, u76, u77, u78, u79, u80, u81, u82, u83, u84, u85, u86, u87, u88, u89, u90, u91, u92, u93, u94, u95, u96, u97, u98, u99, u100, u101, u102, u103, u104, u105, u106, u107, u108, u109, u110, u111, u112, u113, u114, u115, u116, u117, u118, u119, u120, u121, u122, u123, u124, u125, u126, u127, u128, u129, u130, u131, u132, u133, u134, u135, u136, u137, u138, u139, u140, u141, u142, u143, u144, u145, u146, u147, u148, u149, u150, u151, u152, u153, u154, u155, u156, u157, u158, u159, u160, u161, u162, u163, u164, u165, u166, u167, u168, u169, u170, u171, u172, u173, u174, u175, u176, u177, u178, u179, u180, u181, u182, u183, u184, u185, u186, u187, u188, u189, u190, u191, u192, u193, u194], []⟩ wc := by
  conv => enter [2]; dsimp only [codeRest, bodyOf, Try.f9, Option.getD_some]
  have q2_0 := (Env.at_ E0.out 0 rfl).cell 0
  have q2_1 := (Env.at_ E0.out 0 rfl).cell 1
  simp at q2_0 q2_1
  have HS := Lib.hid hs
  have q3 : sa.toList = [1] := by rw [hs, toL]
  have q4 : (sa.toList == [1]) = true := beq_iff_eq.2 q3
  have q5 : (sa.size : Int) = 1 := by rw [hs]; rfl
  clear hs
  go_wp2_with fail
  refine (H57.out _).mono ?_
  rintro e w9 ⟨rfl, hb9⟩
  have E9 := Lib.hid (Env.call E0.out hb9)
  clear hb9 q2_0 q2_1
  have q2_0 := (Env.at_ E9.out 0 rfl).cell 0
  have q2_1 := (Env.at_ E9.out 0 rfl).cell 1
  simp at q2_0 q2_1
  go_upto_if 156 with fail
  go_cut [] (fun wx => Env w wx [(w.heap.size, 26, #[.bool na, .string sa])])
  case first =>
    go_wp2_with fail
    go_meet
    case rel => exact E9.out
  case rest =>
    go_step
    exact roots_p_go H55 H57 H58 H20 HW (Lib.hid hcut)
set_option maxRecDepth 100000 in
set_option maxHeartbeats 8000000 in
theorem roots_go_few {w wc : World} {na : Bool} {sa : ByteArray} {n : Nat} {sp sz : Bool} {bp bz : ByteArray} {ce : Int} {u3 u4 u5 u6 u7 u8 u9 u10 u11 u12 u13 u14 u15 u16 u17 u18 u19 u20 u21 u22 u23 u24 u25 u26 u27 u28 u29 u30 u31 u32 u33 u34 u35 u36 u37 u38 u39 u40 u41 u42 u43 u44 u45 u46 u47 u48 u49 u50 u51 u52 u53 u54 u55 u56 u57 u58 u59 u60 u61 u62 u63 u64 u65 u66 u67 u68 u69 u70 u71 u72 u73 u74 u75 u76 u77 u78 u79 u80 u81 u82 u83 u84 u85 u86 u87 u88 u89 u90 u91 u92 u93 u94 u95 u96 u97 u98 u99 u100 u101 u102 u103 u104 u105 u106 u107 u108 u109 u110 u111 u112 u113 u114 u115 u116 u117 u118 u119 u120 u121 u122 u123 u124 u125 u126 u127 u128 u129 u130 u131 u132 u133 u134 u135 u136 u137 u138 u139 u140 u141 u142 u143 u144 u145 u146 u147 u148 u149 u150 u151 u152 u153 u154 u155 u156 u157 u158 u159 u160 u161 u162 u163 u164 u165 u166 u167 u168 u169 u170 u171 u172 u173 u174 u175 u176 u177 u178 u179 u180 u181 u182 u183 u184 u185 u186 u187 u188 u189 u190 u191 u192 u193 u194 : Value} (hn0 : 0 < n) (hn2 : n ≤ 9223372036854775807) (hs0 : 0 < sa.size) (hs : n ≤ 20000 / sa.size) (hs4 : sa.size ≤ 400) (hs1 : sa ≠ ⟨#[1]⟩) (H55 : Hid (∀ W : World, Calls Try.prog 55 #[.agg #[.bool na, .string sa], .int .i64 (n : Int)] W (Calm W (.tuple #[.agg #[.bool sp, .string bp], .int .i64 ce])))) (H57 : Hid (∀ W : World, Calls Try.prog 57 #[.agg #[.bool na, .string sa], .int .i64 (n : Int)] W (Calm W (.bool false)))) (H58 : Hid (∀ W : World, Calls Try.prog 58 #[.agg #[.bool na, .string sa], .int .i64 (n : Int)] W (Calm W (.agg #[.bool sz, .string bz])))) (H20 : Hid (∀ W : World, Calls Try.prog 20 #[.agg #[.bool sp, .string bp], .int .i64 ce, .agg #[.bool sz, .string bz]] W (Calm W (.bool true)))) (HW : Hid (∀ W : World, Calls Try.prog 13 #[] W (fun e w' => e = .returned (.bool true) ∧ Below W.heap.size W w'))) (E0 : Hid (Env w wc [(w.heap.size, 26, #[.bool na, .string sa])])) :
    (codeRest 6 (bodyOf Try.f9)).wp Try.prog (bodyPost Try.prog Try.f9 (fun e w' => e = .returned (.bool true) ∧ Below w.heap.size w w')) ⟨#[.agg #[.bool na, .string sa], .int .i64 (n : Int), .pointer (some ⟨w.heap.size, 0, none⟩), u3, u4, u5, u6, u7, u8, u9, u10, u11, u12, u13, u14, u15, u16, u17, u18, u19, u20, u21, u22, u23, u24, u25, u26, u27, u28, u29, u30, u31, u32, u33, u34, u35, u36, u37, u38, u39, u40, u41, u42, u43, u44, u45, u46, u47, u48, u49, u50, u51, u52, u53, u54, u55, u56, u57, u58, u59, u60, u61, u62, u63, u64, u65, u66, u67, u68, u69, u70, u71, u72, u73, u74, u75, u76, u77, u78, u79, u80, u81, u82, u83, u84, u85, u86, u87, u88, u89, u90, u91, u92, u93, u94, u95, u96, u97, u98, u99, u100, u101, u102, u103, u104, u105, u106, u107, u108, u109, u110, u111, u112, u113, u114, u115, u116, u117, u118, u119, u120, u121, u122, u123, u124, u125, u126, u127, u128, u129, u130, u131, u132, u133, u134, u135, u136, u137, u138, u139, u140, u141, u142, u143, u144, u145, u146, u147, u148, u149, u150, u151, u152, u153, u154, u155, u156, u157, u158, u159, u160, u161, u162, u163, u164, u165, u166, u167, u168, u169, u170, u171, u172, u173, u174, u175, u176, u177, u178, u179, u180, u181, u182, u183, u184, u185, u186, u187, u188, u189, u190, u191, u192, u193, u194], []⟩ wc := by
  conv => enter [2]; dsimp only [codeRest, bodyOf, Try.f9, Option.getD_some]
  have q2_0 := (Env.at_ E0.out 0 rfl).cell 0
  have q2_1 := (Env.at_ E0.out 0 rfl).cell 1
  simp at q2_0 q2_1
  have q3 := not_one hs1
  have q4 : (sa.toList == [1]) = false := by rw [beq_eq_false_iff_ne]; exact q3
  obtain ⟨Q, hQ⟩ : ∃ Q, Q = 20000 / sa.size := ⟨_, rfl⟩
  have hQ2 : Q ≤ 20000 := by rw [hQ]; exact Nat.div_le_self _ _
  rw [← hQ] at hs
  have q5 : (20000 : Int) / (sa.size : Int) = (Q : Int) := by rw [hQ]; rfl
  have q6 : (20000 : Int).tdiv (sa.size : Int) = (Q : Int) := by rw [hQ]; rfl
  have q7 : ((sa.size : Int) == 0) = false := beq_eq_false_iff_ne.2 (by omega)
  have q8 : wrap64 (Q : Int) = (Q : Int) := IntWalk.wrap64_in _ (by omega)
  have q9 : (n : Int) ≤ (Q : Int) := by omega
  have q10 : decide ((Q : Int) < (n : Int)) = false := decide_eq_false (by omega)
  have q11 : (0 : Int) < (sa.size : Int) := by omega
  clear hQ
  go_wp2_with fail
  refine (H57.out _).mono ?_
  rintro e w9 ⟨rfl, hb9⟩
  have E9 := Lib.hid (Env.call E0.out hb9)
  clear hb9 q2_0 q2_1
  have q2_0 := (Env.at_ E9.out 0 rfl).cell 0
  have q2_1 := (Env.at_ E9.out 0 rfl).cell 1
  simp at q2_0 q2_1
  go_upto_if 156 with fail
  go_cut [] (fun wx => Env w wx [(w.heap.size, 26, #[.bool na, .string sa])])
  case first =>
    go_wp2_with fail
    go_meet
    case rel => exact E9.out
  case rest =>
    go_step
    exact roots_p_go H55 H57 H58 H20 HW (Lib.hid hcut)
set_option maxRecDepth 100000 in
set_option maxHeartbeats 8000000 in
theorem roots_skip {w wc : World} {na : Bool} {sa : ByteArray} {n : Nat} {u3 u4 u5 u6 u7 u8 u9 u10 u11 u12 u13 u14 u15 u16 u17 u18 u19 u20 u21 u22 u23 u24 u25 u26 u27 u28 u29 u30 u31 u32 u33 u34 u35 u36 u37 u38 u39 u40 u41 u42 u43 u44 u45 u46 u47 u48 u49 u50 u51 u52 u53 u54 u55 u56 u57 u58 u59 u60 u61 u62 u63 u64 u65 u66 u67 u68 u69 u70 u71 u72 u73 u74 u75 u76 u77 u78 u79 u80 u81 u82 u83 u84 u85 u86 u87 u88 u89 u90 u91 u92 u93 u94 u95 u96 u97 u98 u99 u100 u101 u102 u103 u104 u105 u106 u107 u108 u109 u110 u111 u112 u113 u114 u115 u116 u117 u118 u119 u120 u121 u122 u123 u124 u125 u126 u127 u128 u129 u130 u131 u132 u133 u134 u135 u136 u137 u138 u139 u140 u141 u142 u143 u144 u145 u146 u147 u148 u149 u150 u151 u152 u153 u154 u155 u156 u157 u158 u159 u160 u161 u162 u163 u164 u165 u166 u167 u168 u169 u170 u171 u172 u173 u174 u175 u176 u177 u178 u179 u180 u181 u182 u183 u184 u185 u186 u187 u188 u189 u190 u191 u192 u193 u194 : Value} (hn2 : n ≤ 9223372036854775807) (H57 : Hid (∀ W : World, Calls Try.prog 57 #[.agg #[.bool na, .string sa], .int .i64 (n : Int)] W (Calm W (.bool false)))) (hs0 : 0 < sa.size) (hs : 20000 / sa.size < n) (hs4 : sa.size ≤ 400) (hs1 : sa ≠ ⟨#[1]⟩) (HW : Hid (∀ W : World, Calls Try.prog 13 #[] W (fun e w' => e = .returned (.bool true) ∧ Below W.heap.size W w'))) (HN : Hid (∀ (W : World) (n : Int), Calls Try.prog 23 #[.int .i64 n] W (fun e w' => e = .returned (.int .i64 n) ∧ W = w'))) (E0 : Hid (Env w wc [(w.heap.size, 26, #[.bool na, .string sa])])) :
    (codeRest 6 (bodyOf Try.f9)).wp Try.prog (bodyPost Try.prog Try.f9 (fun e w' => e = .returned (.bool true) ∧ Below w.heap.size w w')) ⟨#[.agg #[.bool na, .string sa], .int .i64 (n : Int), .pointer (some ⟨w.heap.size, 0, none⟩), u3, u4, u5, u6, u7, u8, u9, u10, u11, u12, u13, u14, u15, u16, u17, u18, u19, u20, u21, u22, u23, u24, u25, u26, u27, u28, u29, u30, u31, u32, u33, u34, u35, u36, u37, u38, u39, u40, u41, u42, u43, u44, u45, u46, u47, u48, u49, u50, u51, u52, u53, u54, u55, u56, u57, u58, u59, u60, u61, u62, u63, u64, u65, u66, u67, u68, u69, u70, u71, u72, u73, u74, u75, u76, u77, u78, u79, u80, u81, u82, u83, u84, u85, u86, u87, u88, u89, u90, u91, u92, u93, u94, u95, u96, u97, u98, u99, u100, u101, u102, u103, u104, u105, u106, u107, u108, u109, u110, u111, u112, u113, u114, u115, u116, u117, u118, u119, u120, u121, u122, u123, u124, u125, u126, u127, u128, u129, u130, u131, u132, u133, u134, u135, u136, u137, u138, u139, u140, u141, u142, u143, u144, u145, u146, u147, u148, u149, u150, u151, u152, u153, u154, u155, u156, u157, u158, u159, u160, u161, u162, u163, u164, u165, u166, u167, u168, u169, u170, u171, u172, u173, u174, u175, u176, u177, u178, u179, u180, u181, u182, u183, u184, u185, u186, u187, u188, u189, u190, u191, u192, u193, u194], []⟩ wc := by
  conv => enter [2]; dsimp only [codeRest, bodyOf, Try.f9, Option.getD_some]
  have hn0 : 0 < n := Nat.lt_of_le_of_lt (Nat.zero_le _) hs
  have q2_0 := (Env.at_ E0.out 0 rfl).cell 0
  have q2_1 := (Env.at_ E0.out 0 rfl).cell 1
  simp at q2_0 q2_1
  have q3 := not_one hs1
  have q4 : (sa.toList == [1]) = false := by rw [beq_eq_false_iff_ne]; exact q3
  obtain ⟨Q, hQ⟩ : ∃ Q, Q = 20000 / sa.size := ⟨_, rfl⟩
  have hQ2 : Q ≤ 20000 := by rw [hQ]; exact Nat.div_le_self _ _
  rw [← hQ] at hs
  have q5 : (20000 : Int) / (sa.size : Int) = (Q : Int) := by rw [hQ]; rfl
  have q6 : (20000 : Int).tdiv (sa.size : Int) = (Q : Int) := by rw [hQ]; rfl
  have q7 : ((sa.size : Int) == 0) = false := beq_eq_false_iff_ne.2 (by omega)
  have q8 : wrap64 (Q : Int) = (Q : Int) := IntWalk.wrap64_in _ (by omega)
  have q9 : (Q : Int) < (n : Int) := by omega
  have q10 : decide ((Q : Int) < (n : Int)) = true := decide_eq_true (by omega)
  have q11 : (0 : Int) < (sa.size : Int) := by omega
  clear hQ
  go_wp2_with fail
  refine (H57.out _).mono ?_
  rintro e w9 ⟨rfl, hb9⟩
  have E9 := Lib.hid (Env.call E0.out hb9)
  clear hb9 q2_0 q2_1
  have q2_0 := (Env.at_ E9.out 0 rfl).cell 0
  have q2_1 := (Env.at_ E9.out 0 rfl).cell 1
  simp at q2_0 q2_1
  go_wp2_with fail
  refine (HW.out _).mono ?_
  rintro e w10 ⟨rfl, hb10⟩
  go_wp2_with fail
  go_ret
  exact ⟨rfl, (Env.call E9.out hb10).1⟩
theorem roots_facts {na : Bool} {sa : ByteArray} {n : Nat} (hm : MayL na sa.data.toList) (hn2 : n ≤ 9223372036854775807) (hv : vast (num (na, sa)).natAbs n = false) (hc : (num (na, sa)).natAbs ≤ 1 ∨ (n < 2097152 ∧ (bys ((num (na, sa)).natAbs ^ n)).length ≤ 100000000)) :
    ∃ (sp sz : Bool) (bp bz : ByteArray) (ce : Int), Hid (∀ W : World, Calls Try.prog 55 #[.agg #[.bool na, .string sa], .int .i64 (n : Int)] W (Calm W (.tuple #[.agg #[.bool sp, .string bp], .int .i64 ce]))) ∧ Hid (∀ W : World, Calls Try.prog 57 #[.agg #[.bool na, .string sa], .int .i64 (n : Int)] W (Calm W (.bool false))) ∧ Hid (∀ W : World, Calls Try.prog 58 #[.agg #[.bool na, .string sa], .int .i64 (n : Int)] W (Calm W (.agg #[.bool sz, .string bz]))) ∧ Hid (∀ W : World, Calls Try.prog 20 #[.agg #[.bool sp, .string bp], .int .i64 ce, .agg #[.bool sz, .string bz]] W (Calm W (.bool true))) := by
  have H57 := fun W : World => rvast_any (w := W) hm hn2
  rw [hv] at H57
  obtain ⟨sz, bz, ez⟩ : ∃ s b, enc (num (na, sa) ^ n) = .agg #[.bool s, .string b] := ⟨_, _, rfl⟩
  have H58 := fun W : World => calm_eq (rpow_any (w := W) hm hn2 hc) ez
  by_cases hf : fits (num (na, sa) ^ n)
  · exact ⟨sz, sz, bz, bz, 0, Lib.hid (fun W => pow_yes hn2 hm hf ez), Lib.hid H57, Lib.hid H58, Lib.hid (fun W => is_yes hf ez)⟩
  · exact ⟨false, sz, ⟨#[]⟩, bz, 4, Lib.hid (fun W => pow_no hn2 hm hf), Lib.hid H57, Lib.hid H58, Lib.hid (fun W => is_no hf ez)⟩
theorem few_size {na : Bool} {sa : ByteArray} {n : Nat} (h0 : 0 < sa.size) (hn : n ≤ 20000 / sa.size) : n < 2097152 ∧ (bys ((num (na, sa)).natAbs ^ n)).length ≤ 100000000 := by
  have h1 : n * sa.size ≤ 20000 := (Nat.le_div_iff_mul_le h0).1 hn
  have h2 : n ≤ n * sa.size := Nat.le_mul_of_pos_right _ h0
  refine ⟨by omega, ?_⟩
  have h3 := pow_sb (n := n) (may_sb (n := na) (s := sa) (Nat.le_refl _))
  unfold SB at h3
  rw [Int.natAbs_pow] at h3
  refine Nat.le_trans (bl_bytes (k := 20001) (Nat.le_trans (bl_lt.2 h3) ?_)) (by omega)
  rw [Nat.mul_assoc, Nat.mul_comm sa.size]
  omega
set_option maxRecDepth 100000 in
set_option maxHeartbeats 8000000 in
theorem roots_rest {w wc : World} {na : Bool} {sa : ByteArray} {n : Int} {u3 u4 u5 u6 u7 u8 u9 u10 u11 u12 u13 u14 u15 u16 u17 u18 u19 u20 u21 u22 u23 u24 u25 u26 u27 u28 u29 u30 u31 u32 u33 u34 u35 u36 u37 u38 u39 u40 u41 u42 u43 u44 u45 u46 u47 u48 u49 u50 u51 u52 u53 u54 u55 u56 u57 u58 u59 u60 u61 u62 u63 u64 u65 u66 u67 u68 u69 u70 u71 u72 u73 u74 u75 u76 u77 u78 u79 u80 u81 u82 u83 u84 u85 u86 u87 u88 u89 u90 u91 u92 u93 u94 u95 u96 u97 u98 u99 u100 u101 u102 u103 u104 u105 u106 u107 u108 u109 u110 u111 u112 u113 u114 u115 u116 u117 u118 u119 u120 u121 u122 u123 u124 u125 u126 u127 u128 u129 u130 u131 u132 u133 u134 u135 u136 u137 u138 u139 u140 u141 u142 u143 u144 u145 u146 u147 u148 u149 u150 u151 u152 u153 u154 u155 u156 u157 u158 u159 u160 u161 u162 u163 u164 u165 u166 u167 u168 u169 u170 u171 u172 u173 u174 u175 u176 u177 u178 u179 u180 u181 u182 u183 u184 u185 u186 u187 u188 u189 u190 u191 u192 u193 u194 : Value} (hm : MayL na sa.data.toList) (hs4 : sa.size ≤ 400) (hn1 : -9223372036854775808 ≤ n) (hn2 : n ≤ 9223372036854775807) (HW : Hid (∀ W : World, Calls Try.prog 13 #[] W (fun e w' => e = .returned (.bool true) ∧ Below W.heap.size W w'))) (HN : Hid (∀ (W : World) (n : Int), Calls Try.prog 23 #[.int .i64 n] W (fun e w' => e = .returned (.int .i64 n) ∧ W = w'))) (E0 : Hid (Env w wc [(w.heap.size, 26, #[.bool na, .string sa])])) :
    (codeRest 6 (bodyOf Try.f9)).wp Try.prog (bodyPost Try.prog Try.f9 (fun e w' => e = .returned (.bool true) ∧ Below w.heap.size w w')) ⟨#[.agg #[.bool na, .string sa], .int .i64 n, .pointer (some ⟨w.heap.size, 0, none⟩), u3, u4, u5, u6, u7, u8, u9, u10, u11, u12, u13, u14, u15, u16, u17, u18, u19, u20, u21, u22, u23, u24, u25, u26, u27, u28, u29, u30, u31, u32, u33, u34, u35, u36, u37, u38, u39, u40, u41, u42, u43, u44, u45, u46, u47, u48, u49, u50, u51, u52, u53, u54, u55, u56, u57, u58, u59, u60, u61, u62, u63, u64, u65, u66, u67, u68, u69, u70, u71, u72, u73, u74, u75, u76, u77, u78, u79, u80, u81, u82, u83, u84, u85, u86, u87, u88, u89, u90, u91, u92, u93, u94, u95, u96, u97, u98, u99, u100, u101, u102, u103, u104, u105, u106, u107, u108, u109, u110, u111, u112, u113, u114, u115, u116, u117, u118, u119, u120, u121, u122, u123, u124, u125, u126, u127, u128, u129, u130, u131, u132, u133, u134, u135, u136, u137, u138, u139, u140, u141, u142, u143, u144, u145, u146, u147, u148, u149, u150, u151, u152, u153, u154, u155, u156, u157, u158, u159, u160, u161, u162, u163, u164, u165, u166, u167, u168, u169, u170, u171, u172, u173, u174, u175, u176, u177, u178, u179, u180, u181, u182, u183, u184, u185, u186, u187, u188, u189, u190, u191, u192, u193, u194], []⟩ wc := by
  rcases Int.lt_or_le n 0 with h | h
  · exact roots_neg_n hm h hn1 hn2 HW HN E0
  · obtain ⟨m, rfl⟩ := Int.eq_ofNat_of_zero_le h
    have h2 : m ≤ 9223372036854775807 := by omega
    clear hn1 hn2 h
    by_cases hv : vast (num (na, sa)).natAbs m = true
    · exact roots_vast hm h2 hv HW HN E0
    · have hv := Bool.not_eq_true _ ▸ hv
      have H57 := fun W : World => rvast_any (w := W) hm h2
      rw [hv] at H57
      rcases Nat.eq_zero_or_pos m with h0 | h0
      · obtain ⟨sp, sz, bp, bz, ce, a1, a2, a3, a4⟩ := roots_facts hm h2 hv (.inr ⟨by omega, by subst h0; rw [Nat.pow_zero]; exact Nat.le_trans (bys_len (k := 1) (by decide)) (by decide)⟩)
        exact roots_go_0 h0 a1 a2 a3 a4 HW E0
      · rcases Nat.eq_zero_or_pos sa.size with hs | hs
        · obtain ⟨sp, sz, bp, bz, ce, a1, a2, a3, a4⟩ := roots_facts hm h2 hv (.inl (by
            obtain ⟨rfl, rfl⟩ := may_none hm hs
            rw [num_zero]; decide))
          exact roots_go_nil h0 h2 hs a1 a2 a3 a4 HW E0
        · by_cases hs1 : sa = ⟨#[1]⟩
          · obtain ⟨sp, sz, bp, bz, ce, a1, a2, a3, a4⟩ := roots_facts hm h2 hv (.inl (by rw [hs1, one_mag]; cases na <;> decide))
            exact roots_go_one h0 h2 hs1 a1 a2 a3 a4 HW E0
          · rcases Nat.lt_or_ge (20000 / sa.size) m with h3 | h3
            · exact roots_skip h2 (Lib.hid H57) hs h3 hs4 hs1 HW HN E0
            · obtain ⟨sp, sz, bp, bz, ce, a1, a2, a3, a4⟩ := roots_facts hm h2 hv (.inr (few_size hs h3))
              exact roots_go_few h0 h2 hs h3 hs4 hs1 a1 a2 a3 a4 HW E0
set_option maxRecDepth 100000 in
set_option maxHeartbeats 8000000 in
theorem roots_neg {w : World} {sa : ByteArray} {n : Int} (hl : isLong (true, sa) = false) (hb : isBad (true, sa) = false) (hm : MayL true sa.data.toList) (hs4 : sa.size ≤ 400) (hn1 : -9223372036854775808 ≤ n) (hn2 : n ≤ 9223372036854775807)  :
    Calls Try.prog 9 #[.agg #[.bool true, .string sa], .int .i64 n] w (fun e w' => e = .returned (.bool true) ∧ Below w.heap.size w w') := by
  have HL := Lib.hid (fun W : World => long_one (w := W) (na := true) (sa := sa))
  rw [hl] at HL
  clear hl
  have HB := Lib.hid (fun W : World => bad_one (w := W) (na := true) (sa := sa))
  rw [hb] at HB
  clear hb
  have Hm := Lib.hid (And.intro hm (And.intro hs4 (And.intro hn1 hn2)))
  have H53 := Lib.hid (fun W : World => root_neg (w := W) hm)
  have H54 := Lib.hid (fun W : World => sq_neg (w := W) hm)
  clear hm hs4 hn1 hn2
  have HW := Lib.hid (fun W : World => works_any (w := W))
  have HN := Lib.hid (fun (W : World) (n : Int) => num_any (w := W) (n := n))
  have E0 := Lib.hid (Env.nil w)
  go_enter Try.func9, Try.ntmps9
  go_upto_region 0 with fail
  go_upto_region 1 with fail
  have E1 : Hid (Env w (w.alloc (.cells #[.bool true, .string sa] 26)) [(w.heap.size, 26, #[.bool true, .string sa])]) := Lib.hid (by have h := (Env.new E0.out 26 #[.bool true, .string sa]); (try simp only [World.size_alloc] at h); exact h)
  generalize (w.alloc (.cells #[.bool true, .string sa] 26)) = W1 at E1 ⊢
  have q0_0 : W1.cell? ⟨w.heap.size, 0, none⟩ = some (.bool true) := (Env.at_ E1.out 0 rfl).cell 0
  have q0_1 : W1.cell? ⟨w.heap.size, 1, none⟩ = some (.string sa) := (Env.at_ E1.out 0 rfl).cell 1
  go_wp2_with fail
  refine (HL.out _).mono ?_
  rintro e w2 ⟨rfl, h2⟩
  have E3 := Lib.hid ((Env.other E1.out (.cells #[.bool true, .string sa] 26)).call h2)
  clear q0_0 q0_1 h2
  go_upto_region 3 with fail
  have q0_0 : w2.cell? ⟨w.heap.size, 0, none⟩ = some (.bool true) := (Env.at_ E3.out 0 rfl).cell 0
  have q0_1 : w2.cell? ⟨w.heap.size, 1, none⟩ = some (.string sa) := (Env.at_ E3.out 0 rfl).cell 1
  go_wp2_with fail
  refine (H53.out _).mono ?_
  rintro e w4 ⟨rfl, h4⟩
  have E5 := Lib.hid (E3.out.call h4)
  clear q0_0 q0_1 h4
  go_upto_region 4 with fail
  have E6 : Hid (Env w ((w4.alloc (.cells #[.bool false, .string ⟨#[]⟩] 26)).alloc (.cells #[.bool false, .string ⟨#[]⟩] 26)) [(w4.heap.size + 1, 26, #[.bool false, .string ⟨#[]⟩]), (w4.heap.size, 26, #[.bool false, .string ⟨#[]⟩]), (w.heap.size, 26, #[.bool true, .string sa])]) := Lib.hid (by have h := (Env.new (Env.new E5.out 26 #[.bool false, .string ⟨#[]⟩]) 26 #[.bool false, .string ⟨#[]⟩]); (try simp only [World.size_alloc] at h); exact h)
  generalize ((w4.alloc (.cells #[.bool false, .string ⟨#[]⟩] 26)).alloc (.cells #[.bool false, .string ⟨#[]⟩] 26)) = W6 at E6 ⊢
  have q0_0 : W6.cell? ⟨w.heap.size, 0, none⟩ = some (.bool true) := (Env.at_ E6.out 2 rfl).cell 0
  have q0_1 : W6.cell? ⟨w.heap.size, 1, none⟩ = some (.string sa) := (Env.at_ E6.out 2 rfl).cell 1
  go_wp2_with fail
  refine (H54.out _).mono ?_
  rintro e w7 ⟨rfl, h7⟩
  have E8 := Lib.hid (E6.out.call h7)
  clear q0_0 q0_1 h7
  go_upto_region 5 with fail
  have E9 : Hid (Env w (w7.alloc (.cells #[.bool false, .string ⟨#[]⟩] 26)) [(w7.heap.size, 26, #[.bool false, .string ⟨#[]⟩]), (w4.heap.size + 1, 26, #[.bool false, .string ⟨#[]⟩]), (w4.heap.size, 26, #[.bool false, .string ⟨#[]⟩]), (w.heap.size, 26, #[.bool true, .string sa])]) := Lib.hid (by have h := (Env.new E8.out 26 #[.bool false, .string ⟨#[]⟩]); (try simp only [World.size_alloc] at h); exact h)
  generalize (w7.alloc (.cells #[.bool false, .string ⟨#[]⟩] 26)) = W9 at E9 ⊢
  have q0_0 : W9.cell? ⟨w.heap.size, 0, none⟩ = some (.bool true) := (Env.at_ E9.out 3 rfl).cell 0
  have q0_1 : W9.cell? ⟨w.heap.size, 1, none⟩ = some (.string sa) := (Env.at_ E9.out 3 rfl).cell 1
  go_wp2_with fail
  refine (HB.out _).mono ?_
  rintro e w10 ⟨rfl, h10⟩
  have E11 := Lib.hid ((Env.other E9.out (.cells #[.bool true, .string sa] 26)).call h10)
  clear q0_0 q0_1 h10
  go_upto_region 8 with fail
  have q2_0 : w10.cell? ⟨w.heap.size, 0, none⟩ = some (.bool true) := (Env.at_ E11.out 3 rfl).cell 0
  go_upto_if 66 with fail
  clear q2_0
  go_cut [] (fun wx => Env w wx [(w.heap.size, 26, #[.bool true, .string sa])])
  case first =>
    go_upto_region 9 with fail
    have q0_0 : w10.cell? ⟨w4.heap.size, 0, none⟩ = some (.bool false) := (Env.at_ E11.out 2 rfl).cell 0
    have q0_1 : w10.cell? ⟨w4.heap.size, 1, none⟩ = some (.string ⟨#[]⟩) := (Env.at_ E11.out 2 rfl).cell 1
    have q4_0 : w10.cell? ⟨w4.heap.size + 1, 0, none⟩ = some (.bool false) := (Env.at_ E11.out 1 rfl).cell 0
    have q4_1 : w10.cell? ⟨w4.heap.size + 1, 1, none⟩ = some (.string ⟨#[]⟩) := (Env.at_ E11.out 1 rfl).cell 1
    go_wp2_with fail
    refine (HN.out _ 7).mono ?_
    rintro e w12 ⟨rfl, h12⟩
    subst h12
    have E13 := Lib.hid (E11.out)
    clear q0_0 q0_1 q4_0 q4_1
    have q14_0 : w10.cell? ⟨w7.heap.size, 0, none⟩ = some (.bool false) := (Env.at_ E13.out 0 rfl).cell 0
    have q14_1 : w10.cell? ⟨w7.heap.size, 1, none⟩ = some (.string ⟨#[]⟩) := (Env.at_ E13.out 0 rfl).cell 1
    go_wp2_with fail
    go_meet
    case rel => exact Env.drop E13.out 3
  case rest =>
    go_step
    exact roots_rest Hm.out.1 Hm.out.2.1 Hm.out.2.2.1 Hm.out.2.2.2 HW HN (Lib.hid hcut)
set_option maxRecDepth 100000 in
set_option maxHeartbeats 8000000 in
theorem roots_sq {w : World} {sa : ByteArray} {n : Int} {r : Nat} (hl : isLong (false, sa) = false) (hb : isBad (false, sa) = false) (hm : MayL false sa.data.toList) (hs4 : sa.size ≤ 400) (hn1 : -9223372036854775808 ≤ n) (hn2 : n ≤ 9223372036854775807) (h1 : r * r = bval sa.data.toList) :
    Calls Try.prog 9 #[.agg #[.bool false, .string sa], .int .i64 n] w (fun e w' => e = .returned (.bool true) ∧ Below w.heap.size w w') := by
  have HL := Lib.hid (fun W : World => long_one (w := W) (na := false) (sa := sa))
  rw [hl] at HL
  clear hl
  have HB := Lib.hid (fun W : World => bad_one (w := W) (na := false) (sa := sa))
  rw [hb] at HB
  clear hb
  have Hm := Lib.hid (And.intro hm (And.intro hs4 (And.intro hn1 hn2)))
  obtain ⟨sr, br, er⟩ : ∃ s b, enc (r : Int) = .agg #[.bool s, .string b] := ⟨_, _, rfl⟩
  have h2 : bval sa.data.toList < (r + 1) * (r + 1) := by rw [← h1, Nat.add_mul, Nat.mul_add]; omega
  have et : enc (num (false, sa) - (r : Int) * (r : Int)) = .agg #[.bool false, .string ⟨#[]⟩] := by
    rw [show num (false, sa) = ((bval sa.data.toList : Nat) : Int) from rfl, ← h1, Int.natCast_mul, Int.sub_self, enc_zero]
  have H53 := Lib.hid (fun W : World => root_told (w := W) hm (Nat.le_of_eq h1) h2 er et)
  have H54 := Lib.hid (fun W : World => calm_eq (sq_yes (w := W) hm h1) (show (Value.tuple #[enc (r : Int), .bool true]) = .tuple #[.agg #[.bool sr, .string br], .bool true] by rw [er]))
  have H56 := Lib.hid (fun W : World => rroot_told (w := W) hm (Nat.le_of_eq h1) h2 er et)
  clear h1 h2 er et
  clear hm hs4 hn1 hn2
  have HW := Lib.hid (fun W : World => works_any (w := W))
  have HN := Lib.hid (fun (W : World) (n : Int) => num_any (w := W) (n := n))
  have E0 := Lib.hid (Env.nil w)
  go_enter Try.func9, Try.ntmps9
  go_upto_region 0 with fail
  go_upto_region 1 with fail
  have E1 : Hid (Env w (w.alloc (.cells #[.bool false, .string sa] 26)) [(w.heap.size, 26, #[.bool false, .string sa])]) := Lib.hid (by have h := (Env.new E0.out 26 #[.bool false, .string sa]); (try simp only [World.size_alloc] at h); exact h)
  generalize (w.alloc (.cells #[.bool false, .string sa] 26)) = W1 at E1 ⊢
  have q0_0 : W1.cell? ⟨w.heap.size, 0, none⟩ = some (.bool false) := (Env.at_ E1.out 0 rfl).cell 0
  have q0_1 : W1.cell? ⟨w.heap.size, 1, none⟩ = some (.string sa) := (Env.at_ E1.out 0 rfl).cell 1
  go_wp2_with fail
  refine (HL.out _).mono ?_
  rintro e w2 ⟨rfl, h2⟩
  have E3 := Lib.hid ((Env.other E1.out (.cells #[.bool false, .string sa] 26)).call h2)
  clear q0_0 q0_1 h2
  go_upto_region 3 with fail
  have q0_0 : w2.cell? ⟨w.heap.size, 0, none⟩ = some (.bool false) := (Env.at_ E3.out 0 rfl).cell 0
  have q0_1 : w2.cell? ⟨w.heap.size, 1, none⟩ = some (.string sa) := (Env.at_ E3.out 0 rfl).cell 1
  go_wp2_with fail
  refine (H53.out _).mono ?_
  rintro e w4 ⟨rfl, h4⟩
  have E5 := Lib.hid (E3.out.call h4)
  clear q0_0 q0_1 h4
  go_upto_region 4 with fail
  have E6 : Hid (Env w ((w4.alloc (.cells #[.bool sr, .string br] 26)).alloc (.cells #[.bool false, .string ⟨#[]⟩] 26)) [(w4.heap.size + 1, 26, #[.bool false, .string ⟨#[]⟩]), (w4.heap.size, 26, #[.bool sr, .string br]), (w.heap.size, 26, #[.bool false, .string sa])]) := Lib.hid (by have h := (Env.new (Env.new E5.out 26 #[.bool sr, .string br]) 26 #[.bool false, .string ⟨#[]⟩]); (try simp only [World.size_alloc] at h); exact h)
  generalize ((w4.alloc (.cells #[.bool sr, .string br] 26)).alloc (.cells #[.bool false, .string ⟨#[]⟩] 26)) = W6 at E6 ⊢
  have q0_0 : W6.cell? ⟨w.heap.size, 0, none⟩ = some (.bool false) := (Env.at_ E6.out 2 rfl).cell 0
  have q0_1 : W6.cell? ⟨w.heap.size, 1, none⟩ = some (.string sa) := (Env.at_ E6.out 2 rfl).cell 1
  go_wp2_with fail
  refine (H54.out _).mono ?_
  rintro e w7 ⟨rfl, h7⟩
  have E8 := Lib.hid (E6.out.call h7)
  clear q0_0 q0_1 h7
  go_upto_region 5 with fail
  have E9 : Hid (Env w (w7.alloc (.cells #[.bool sr, .string br] 26)) [(w7.heap.size, 26, #[.bool sr, .string br]), (w4.heap.size + 1, 26, #[.bool false, .string ⟨#[]⟩]), (w4.heap.size, 26, #[.bool sr, .string br]), (w.heap.size, 26, #[.bool false, .string sa])]) := Lib.hid (by have h := (Env.new E8.out 26 #[.bool sr, .string br]); (try simp only [World.size_alloc] at h); exact h)
  generalize (w7.alloc (.cells #[.bool sr, .string br] 26)) = W9 at E9 ⊢
  have q0_0 : W9.cell? ⟨w.heap.size, 0, none⟩ = some (.bool false) := (Env.at_ E9.out 3 rfl).cell 0
  have q0_1 : W9.cell? ⟨w.heap.size, 1, none⟩ = some (.string sa) := (Env.at_ E9.out 3 rfl).cell 1
  go_wp2_with fail
  refine (HB.out _).mono ?_
  rintro e w10 ⟨rfl, h10⟩
  have E11 := Lib.hid ((Env.other E9.out (.cells #[.bool false, .string sa] 26)).call h10)
  clear q0_0 q0_1 h10
  go_upto_region 8 with fail
  have q2_0 : w10.cell? ⟨w.heap.size, 0, none⟩ = some (.bool false) := (Env.at_ E11.out 3 rfl).cell 0
  go_upto_if 66 with fail
  clear q2_0
  go_cut [] (fun wx => Env w wx [(w.heap.size, 26, #[.bool false, .string sa])])
  case first =>
    go_upto_region 11 with fail
    have q0_0 : w10.cell? ⟨w.heap.size, 0, none⟩ = some (.bool false) := (Env.at_ E11.out 3 rfl).cell 0
    have q0_1 : w10.cell? ⟨w.heap.size, 1, none⟩ = some (.string sa) := (Env.at_ E11.out 3 rfl).cell 1
    go_wp2_with fail
    refine (H56.out _).mono ?_
    rintro e w12 ⟨rfl, h12⟩
    have E13 := Lib.hid (E11.out.call h12)
    clear q0_0 q0_1 h12
    go_upto_region 12 with fail
    have E14 : Hid (Env w ((w12.alloc (.cells #[.bool sr, .string br] 26)).alloc (.cells #[.bool false, .string ⟨#[]⟩] 26)) [(w12.heap.size + 1, 26, #[.bool false, .string ⟨#[]⟩]), (w12.heap.size, 26, #[.bool sr, .string br]), (w7.heap.size, 26, #[.bool sr, .string br]), (w4.heap.size + 1, 26, #[.bool false, .string ⟨#[]⟩]), (w4.heap.size, 26, #[.bool sr, .string br]), (w.heap.size, 26, #[.bool false, .string sa])]) := Lib.hid (by have h := (Env.new (Env.new E13.out 26 #[.bool sr, .string br]) 26 #[.bool false, .string ⟨#[]⟩]); (try simp only [World.size_alloc] at h); exact h)
    generalize ((w12.alloc (.cells #[.bool sr, .string br] 26)).alloc (.cells #[.bool false, .string ⟨#[]⟩] 26)) = W14 at E14 ⊢
    have q0_0 : W14.cell? ⟨w4.heap.size, 0, none⟩ = some (.bool sr) := (Env.at_ E14.out 4 rfl).cell 0
    have q0_1 : W14.cell? ⟨w4.heap.size, 1, none⟩ = some (.string br) := (Env.at_ E14.out 4 rfl).cell 1
    have q1_0 : W14.cell? ⟨w12.heap.size, 0, none⟩ = some (.bool sr) := (Env.at_ E14.out 1 rfl).cell 0
    have q1_1 : W14.cell? ⟨w12.heap.size, 1, none⟩ = some (.string br) := (Env.at_ E14.out 1 rfl).cell 1
    have q4_0 : W14.cell? ⟨w4.heap.size + 1, 0, none⟩ = some (.bool false) := (Env.at_ E14.out 3 rfl).cell 0
    have q4_1 : W14.cell? ⟨w4.heap.size + 1, 1, none⟩ = some (.string ⟨#[]⟩) := (Env.at_ E14.out 3 rfl).cell 1
    have q5_0 : W14.cell? ⟨w12.heap.size + 1, 0, none⟩ = some (.bool false) := (Env.at_ E14.out 0 rfl).cell 0
    have q5_1 : W14.cell? ⟨w12.heap.size + 1, 1, none⟩ = some (.string ⟨#[]⟩) := (Env.at_ E14.out 0 rfl).cell 1
    go_wp2_with fail
    refine (HN.out _ 0).mono ?_
    rintro e w15 ⟨rfl, h15⟩
    subst h15
    have E16 := Lib.hid (E14.out)
    clear q0_0 q0_1 q1_0 q1_1 q4_0 q4_1 q5_0 q5_1
    have q16_1 : W14.cell? ⟨w12.heap.size + 1, 1, none⟩ = some (.string ⟨#[]⟩) := (Env.at_ E16.out 0 rfl).cell 1
    have q23_0 : W14.cell? ⟨w7.heap.size, 0, none⟩ = some (.bool sr) := (Env.at_ E16.out 2 rfl).cell 0
    have q23_1 : W14.cell? ⟨w7.heap.size, 1, none⟩ = some (.string br) := (Env.at_ E16.out 2 rfl).cell 1
    have q24_0 : W14.cell? ⟨w12.heap.size, 0, none⟩ = some (.bool sr) := (Env.at_ E16.out 1 rfl).cell 0
    have q24_1 : W14.cell? ⟨w12.heap.size, 1, none⟩ = some (.string br) := (Env.at_ E16.out 1 rfl).cell 1
    go_wp2_with fail
    go_meet
    case rel => exact Env.drop E16.out 5
  case rest =>
    go_step
    exact roots_rest Hm.out.1 Hm.out.2.1 Hm.out.2.2.1 Hm.out.2.2.2 HW HN (Lib.hid hcut)
set_option maxRecDepth 100000 in
set_option maxHeartbeats 8000000 in
theorem roots_no {w : World} {sa : ByteArray} {n : Int} {r : Nat} (hl : isLong (false, sa) = false) (hb : isBad (false, sa) = false) (hm : MayL false sa.data.toList) (hs4 : sa.size ≤ 400) (hn1 : -9223372036854775808 ≤ n) (hn2 : n ≤ 9223372036854775807) (h1 : r * r ≤ bval sa.data.toList) (h2 : bval sa.data.toList < (r + 1) * (r + 1)) (h3 : r * r ≠ bval sa.data.toList) :
    Calls Try.prog 9 #[.agg #[.bool false, .string sa], .int .i64 n] w (fun e w' => e = .returned (.bool true) ∧ Below w.heap.size w w') := by
  have HL := Lib.hid (fun W : World => long_one (w := W) (na := false) (sa := sa))
  rw [hl] at HL
  clear hl
  have HB := Lib.hid (fun W : World => bad_one (w := W) (na := false) (sa := sa))
  rw [hb] at HB
  clear hb
  have Hm := Lib.hid (And.intro hm (And.intro hs4 (And.intro hn1 hn2)))
  obtain ⟨sr, br, er⟩ : ∃ s b, enc (r : Int) = .agg #[.bool s, .string b] := ⟨_, _, rfl⟩
  obtain ⟨x, hx⟩ : ∃ x : Nat, x = bval sa.data.toList - r * r := ⟨_, rfl⟩
  have he : num (false, sa) - (r : Int) * (r : Int) = (x : Int) := by
    rw [show num (false, sa) = ((bval sa.data.toList : Nat) : Int) from rfl, show (r : Int) * (r : Int) = ((r * r : Nat) : Int) from (Int.natCast_mul r r).symm]; omega
  have hd : decide ((x : Int) < 0) = false := decide_eq_false (by omega)
  obtain ⟨bt, hbt⟩ : ∃ b : ByteArray, b = ⟨(bys x).toArray⟩ := ⟨_, rfl⟩
  have et : enc (num (false, sa) - (r : Int) * (r : Int)) = .agg #[.bool false, .string bt] := by rw [he, hbt]; unfold enc; rw [hd]; rfl
  have hz : 0 < bt.size := by rw [hbt]; exact enc_pos_len (by omega)
  obtain ⟨z1, z2⟩ := str_facts hz
  have H53 := Lib.hid (fun W : World => root_told (w := W) hm h1 h2 er et)
  have H54 := Lib.hid (fun W : World => sq_no (w := W) hm h1 h2 h3)
  have H56 := Lib.hid (fun W : World => rroot_told (w := W) hm h1 h2 er et)
  clear h1 h2 h3 er et hx he hd hbt hz
  clear hm hs4 hn1 hn2
  have HW := Lib.hid (fun W : World => works_any (w := W))
  have HN := Lib.hid (fun (W : World) (n : Int) => num_any (w := W) (n := n))
  have E0 := Lib.hid (Env.nil w)
  go_enter Try.func9, Try.ntmps9
  go_upto_region 0 with fail
  go_upto_region 1 with fail
  have E1 : Hid (Env w (w.alloc (.cells #[.bool false, .string sa] 26)) [(w.heap.size, 26, #[.bool false, .string sa])]) := Lib.hid (by have h := (Env.new E0.out 26 #[.bool false, .string sa]); (try simp only [World.size_alloc] at h); exact h)
  generalize (w.alloc (.cells #[.bool false, .string sa] 26)) = W1 at E1 ⊢
  have q0_0 : W1.cell? ⟨w.heap.size, 0, none⟩ = some (.bool false) := (Env.at_ E1.out 0 rfl).cell 0
  have q0_1 : W1.cell? ⟨w.heap.size, 1, none⟩ = some (.string sa) := (Env.at_ E1.out 0 rfl).cell 1
  go_wp2_with fail
  refine (HL.out _).mono ?_
  rintro e w2 ⟨rfl, h2⟩
  have E3 := Lib.hid ((Env.other E1.out (.cells #[.bool false, .string sa] 26)).call h2)
  clear q0_0 q0_1 h2
  go_upto_region 3 with fail
  have q0_0 : w2.cell? ⟨w.heap.size, 0, none⟩ = some (.bool false) := (Env.at_ E3.out 0 rfl).cell 0
  have q0_1 : w2.cell? ⟨w.heap.size, 1, none⟩ = some (.string sa) := (Env.at_ E3.out 0 rfl).cell 1
  go_wp2_with fail
  refine (H53.out _).mono ?_
  rintro e w4 ⟨rfl, h4⟩
  have E5 := Lib.hid (E3.out.call h4)
  clear q0_0 q0_1 h4
  go_upto_region 4 with fail
  have E6 : Hid (Env w ((w4.alloc (.cells #[.bool sr, .string br] 26)).alloc (.cells #[.bool false, .string bt] 26)) [(w4.heap.size + 1, 26, #[.bool false, .string bt]), (w4.heap.size, 26, #[.bool sr, .string br]), (w.heap.size, 26, #[.bool false, .string sa])]) := Lib.hid (by have h := (Env.new (Env.new E5.out 26 #[.bool sr, .string br]) 26 #[.bool false, .string bt]); (try simp only [World.size_alloc] at h); exact h)
  generalize ((w4.alloc (.cells #[.bool sr, .string br] 26)).alloc (.cells #[.bool false, .string bt] 26)) = W6 at E6 ⊢
  have q0_0 : W6.cell? ⟨w.heap.size, 0, none⟩ = some (.bool false) := (Env.at_ E6.out 2 rfl).cell 0
  have q0_1 : W6.cell? ⟨w.heap.size, 1, none⟩ = some (.string sa) := (Env.at_ E6.out 2 rfl).cell 1
  go_wp2_with fail
  refine (H54.out _).mono ?_
  rintro e w7 ⟨rfl, h7⟩
  have E8 := Lib.hid (E6.out.call h7)
  clear q0_0 q0_1 h7
  go_upto_region 5 with fail
  have E9 : Hid (Env w (w7.alloc (.cells #[.bool false, .string ⟨#[]⟩] 26)) [(w7.heap.size, 26, #[.bool false, .string ⟨#[]⟩]), (w4.heap.size + 1, 26, #[.bool false, .string bt]), (w4.heap.size, 26, #[.bool sr, .string br]), (w.heap.size, 26, #[.bool false, .string sa])]) := Lib.hid (by have h := (Env.new E8.out 26 #[.bool false, .string ⟨#[]⟩]); (try simp only [World.size_alloc] at h); exact h)
  generalize (w7.alloc (.cells #[.bool false, .string ⟨#[]⟩] 26)) = W9 at E9 ⊢
  have q0_0 : W9.cell? ⟨w.heap.size, 0, none⟩ = some (.bool false) := (Env.at_ E9.out 3 rfl).cell 0
  have q0_1 : W9.cell? ⟨w.heap.size, 1, none⟩ = some (.string sa) := (Env.at_ E9.out 3 rfl).cell 1
  go_wp2_with fail
  refine (HB.out _).mono ?_
  rintro e w10 ⟨rfl, h10⟩
  have E11 := Lib.hid ((Env.other E9.out (.cells #[.bool false, .string sa] 26)).call h10)
  clear q0_0 q0_1 h10
  go_upto_region 8 with fail
  have q2_0 : w10.cell? ⟨w.heap.size, 0, none⟩ = some (.bool false) := (Env.at_ E11.out 3 rfl).cell 0
  go_upto_if 66 with fail
  clear q2_0
  go_cut [] (fun wx => Env w wx [(w.heap.size, 26, #[.bool false, .string sa])])
  case first =>
    go_upto_region 11 with fail
    have q0_0 : w10.cell? ⟨w.heap.size, 0, none⟩ = some (.bool false) := (Env.at_ E11.out 3 rfl).cell 0
    have q0_1 : w10.cell? ⟨w.heap.size, 1, none⟩ = some (.string sa) := (Env.at_ E11.out 3 rfl).cell 1
    go_wp2_with fail
    refine (H56.out _).mono ?_
    rintro e w12 ⟨rfl, h12⟩
    have E13 := Lib.hid (E11.out.call h12)
    clear q0_0 q0_1 h12
    go_upto_region 12 with fail
    have E14 : Hid (Env w ((w12.alloc (.cells #[.bool sr, .string br] 26)).alloc (.cells #[.bool false, .string bt] 26)) [(w12.heap.size + 1, 26, #[.bool false, .string bt]), (w12.heap.size, 26, #[.bool sr, .string br]), (w7.heap.size, 26, #[.bool false, .string ⟨#[]⟩]), (w4.heap.size + 1, 26, #[.bool false, .string bt]), (w4.heap.size, 26, #[.bool sr, .string br]), (w.heap.size, 26, #[.bool false, .string sa])]) := Lib.hid (by have h := (Env.new (Env.new E13.out 26 #[.bool sr, .string br]) 26 #[.bool false, .string bt]); (try simp only [World.size_alloc] at h); exact h)
    generalize ((w12.alloc (.cells #[.bool sr, .string br] 26)).alloc (.cells #[.bool false, .string bt] 26)) = W14 at E14 ⊢
    have q0_0 : W14.cell? ⟨w4.heap.size, 0, none⟩ = some (.bool sr) := (Env.at_ E14.out 4 rfl).cell 0
    have q0_1 : W14.cell? ⟨w4.heap.size, 1, none⟩ = some (.string br) := (Env.at_ E14.out 4 rfl).cell 1
    have q1_0 : W14.cell? ⟨w12.heap.size, 0, none⟩ = some (.bool sr) := (Env.at_ E14.out 1 rfl).cell 0
    have q1_1 : W14.cell? ⟨w12.heap.size, 1, none⟩ = some (.string br) := (Env.at_ E14.out 1 rfl).cell 1
    have q4_0 : W14.cell? ⟨w4.heap.size + 1, 0, none⟩ = some (.bool false) := (Env.at_ E14.out 3 rfl).cell 0
    have q4_1 : W14.cell? ⟨w4.heap.size + 1, 1, none⟩ = some (.string bt) := (Env.at_ E14.out 3 rfl).cell 1
    have q5_0 : W14.cell? ⟨w12.heap.size + 1, 0, none⟩ = some (.bool false) := (Env.at_ E14.out 0 rfl).cell 0
    have q5_1 : W14.cell? ⟨w12.heap.size + 1, 1, none⟩ = some (.string bt) := (Env.at_ E14.out 0 rfl).cell 1
    go_wp2_with fail
    refine (HN.out _ 0).mono ?_
    rintro e w15 ⟨rfl, h15⟩
    subst h15
    have E16 := Lib.hid (E14.out)
    clear q0_0 q0_1 q1_0 q1_1 q4_0 q4_1 q5_0 q5_1
    have q16_1 : W14.cell? ⟨w12.heap.size + 1, 1, none⟩ = some (.string bt) := (Env.at_ E16.out 0 rfl).cell 1
    have q23_0 : W14.cell? ⟨w7.heap.size, 0, none⟩ = some (.bool false) := (Env.at_ E16.out 2 rfl).cell 0
    have q23_1 : W14.cell? ⟨w7.heap.size, 1, none⟩ = some (.string ⟨#[]⟩) := (Env.at_ E16.out 2 rfl).cell 1
    have q24_0 : W14.cell? ⟨w12.heap.size, 0, none⟩ = some (.bool sr) := (Env.at_ E16.out 1 rfl).cell 0
    have q24_1 : W14.cell? ⟨w12.heap.size, 1, none⟩ = some (.string br) := (Env.at_ E16.out 1 rfl).cell 1
    go_wp2_with fail
    go_meet
    case rel => exact Env.drop E16.out 5
  case rest =>
    go_step
    exact roots_rest Hm.out.1 Hm.out.2.1 Hm.out.2.2.1 Hm.out.2.2.2 HW HN (Lib.hid hcut)
theorem roots_any {w : World} {na : Bool} {sa : ByteArray} {n : Int} (hn1 : -9223372036854775808 ≤ n) (hn2 : n ≤ 9223372036854775807) :
    Calls Try.prog 9 #[.agg #[.bool na, .string sa], .int .i64 n] w (fun e w' => e = .returned (.bool true) ∧ Below w.heap.size w w') := by
  by_cases hl : isLong (na, sa) = true
  · exact roots_long hl
  have hl := Bool.not_eq_true _ ▸ hl
  by_cases hb : isBad (na, sa) = true
  · exact roots_bad hl hb (isBad_yes.1 hb) hn1 hn2
  have hb := Bool.not_eq_true _ ▸ hb
  have hm := isBad_no.1 hb
  have h4 := short_of hl hm
  cases na with
  | true => exact roots_neg hl hb hm h4 hn1 hn2
  | false =>
    obtain ⟨r, h1, h2⟩ := root_ex (bval sa.data.toList)
    by_cases h3 : r * r = bval sa.data.toList
    · exact roots_sq hl hb hm h4 hn1 hn2 h3
    · exact roots_no hl hb hm h4 hn1 hn2 h1 h2 h3
end Go.Proofs.Ytpnginnjbdedbaa

/- The frame of a law's row: what came in reads as it did. -/
namespace Go.Proofs.Ytpnginnjbdedbaa
open Go.ChangeShapes Go.WideShapes Go.ChangeAt Go.RowKit

theorem own : ownKnob Try.prog.godebug = none := by kernel_rfl

theorem trodAll_keep {H : Type} {enc : TypeId × Value → H} {P : Program} (hl : laidOutB P = true) {W W' : World} (hb : Below W.heap.size W W') {sp : Nat → Bool} :
    ∀ (ts : List TypeId) (vs : List Value) (ds : List (DataW H)) (ps : List MemPlace), DataW.TrodAll enc P W 0 (fun _ => true) true ts vs ds ps → (∀ t ∈ ts, P.readableRec t = true ∧ t < P.types.size) →
      (∀ x ∈ ps, x.block < W.heap.size) → (∀ x ∈ ps, sp x.block = true) → DataW.TrodAll enc P W' 0 sp true ts vs ds ps
  | [], vs, ds, ps, h, _, _, _ => by
    obtain ⟨rfl, rfl, rfl⟩ := trodAll_nil h
    exact trodAll_mk0
  | t :: ts, vs, ds, ps, h, ht, hlt, hsp => by
    obtain ⟨v, vs', d, ds', p, q, rfl, rfl, rfl, h0, h1⟩ := trodAll_cons h
    refine trodAll_cons_mk ?_ (trodAll_keep hl hb ts vs' ds' q h1 (fun t' h' => ht t' (List.mem_cons_of_mem _ h')) (fun x hx => hlt x (List.mem_append_right _ hx)) (fun x hx => hsp x (List.mem_append_right _ hx)))
    obtain ⟨hr, hrow⟩ := ht t List.mem_cons_self
    exact WideElems.Trod_stays hl hr hrow h0 (fun x hx => hb.same (hlt x (List.mem_append_left _ hx))) (fun x hx => hsp x (List.mem_append_left _ hx))

theorem laidOut : laidOutB Try.prog = true := by kernel_rfl

set_option maxRecDepth 100000 in
/-- the post of a law that has returned true and written nothing that was there -/
theorem law_post {H : Type} {enc : TypeId × Value → H} {f : Func} {s : ChangeSpec} {W W' : World} {args : Array Value} {ds gs : List (DataW H)} {before : List MemPlace} {bt : TypeId}
    (hW : DataW.Whole enc Try.prog f.params.toList s.vars false W args.toList ds gs before) (hb : Below W.heap.size W W') (hv : s.vars = []) (hrt : f.resultTypes = #[bt]) (hbt : Try.prog.underlying bt = some .bool)
    (hpar : ∀ t ∈ f.params.toList, Try.prog.readableRec t = true ∧ t < Try.prog.types.size)
    (hres : (s.fn H (ds ++ gs)).results = [.lit (.bool true)]) (hargs : (s.fn H (ds ++ gs)).args = ds) (hvs : (s.fn H (ds ++ gs)).vars = []) :
    s.post enc Try.prog f false true false false W args (.bool true) W' := by
  have hlt : ∀ p ∈ before, p.block < W.heap.size := fun p hp => hW.lt p hp
  have hW' := hW
  obtain ⟨p, q, hA, hV, rfl, hfz, hnd⟩ := hW
  have hq : q = [] := by
    rw [hv] at hV
    exact (trodVars_none hV).2
  subst hq
  refine post_of_below (pa := p) (pv := []) hW' (fun _ _ _ => ?_) (fun sp hsp => ?_) (fun sp hsp => ?_) rfl hb ?_
  · rw [hres, hrt]
    exact trodAll_cons_mk (shut_bool hbt _) trodAll_mk0
  · rw [hargs]
    exact trodAll_keep laidOut hb _ _ _ _ hA hpar (fun x hx => hlt x (List.mem_append_left _ hx)) (fun x hx => hsp x (List.mem_append_left _ hx))
  · rw [hv, hvs]
    rfl
  · exact ok_one hrt rfl (okWide_bool_mk hbt _)
end Go.Proofs.Ytpnginnjbdedbaa

/- Arguments opened: a whole number. -/
namespace Go.Proofs.Ytpnginnjbdedbaa.Opened
open Go.ChangeShapes Go.WideShapes Go.ChangeAt Go.RowKit

section
variable {H : Type} {enc : TypeId × Value → H} {w : World} {base fuel : Nat} {spare : Nat → Bool} {held : Bool}
theorem c26 : Try.prog.cellsOf 26 = 2 := by kernel_rfl
theorem c9 : Try.prog.cellsOf 9 = 1 := by kernel_rfl
theorem c4 : Try.prog.cellsOf 4 = 1 := by kernel_rfl
set_option maxRecDepth 100000 in
theorem open_whole {cs : List Value} {x : DataW H × List MemPlace} (h : DataW.trod enc Try.prog w base spare held fuel 26 cs = some x) :
    ∃ (b : Bool) (s : ByteArray), cs = [.bool b, .string s] ∧ x.1 = .agg [.lit (.bool b), .lit (.string s.data.toList)] := by
  obtain ⟨xs, n, _, rfl, hl, hx, hf⟩ := DataW.trod_struct Try.underlying26 h
  rw [c26] at hl
  match cs, hl, xs, hx with
  | [d0, d1], _, [x0, x1], _ =>
    have h0 : DataW.trod enc Try.prog w base spare held n 4 ((List.drop 0 [d0, d1]).take (Try.prog.cellsOf 4)) = some x0 := hf 0 _ rfl
    have h1 : DataW.trod enc Try.prog w base spare held n 9 ((List.drop 1 [d0, d1]).take (Try.prog.cellsOf 9)) = some x1 := hf 1 _ rfl
    rw [c4] at h0
    rw [c9] at h1
    obtain ⟨b, hb, hx0⟩ := DataW.trod_bool Try.underlying4 h0
    obtain ⟨s, hs, hx1, _⟩ := DataW.trod_string Try.underlying9 h1
    simp only [List.drop, List.take, List.cons.injEq, and_true] at hb hs
    subst hb hs hx0 hx1
    exact ⟨b, s, rfl, rfl⟩
set_option maxRecDepth 100000 in
/-- an argument that is a whole number -/
theorem open_arg {W : World} {b0 : Nat} {v : Value} {d : DataW H} {p : List MemPlace} {P0 : Nat → Bool} (hval : Value.okWide Try.prog W .any b0 26 v) (h : DataW.Trod enc Try.prog W 0 P0 true 26 v d p) :
    ∃ (b : Bool) (s : ByteArray), v = .agg #[.bool b, .string s] ∧ d = .agg [.lit (.bool b), .lit (.string s.data.toList)] := by
  obtain ⟨cs, rfl, hsz⟩ := okWide_struct Try.underlying26 hval
  obtain ⟨fuel, hf⟩ := h
  obtain ⟨b, s, hcs, hd⟩ := open_whole hf
  have ecs : cs = #[.bool b, .string s] := by
    have : cs.toList = _ := hcs
    rw [← Array.toArray_toList (xs := cs), this]
  exact ⟨b, s, by rw [ecs], hd⟩
end
end Go.Proofs.Ytpnginnjbdedbaa.Opened
