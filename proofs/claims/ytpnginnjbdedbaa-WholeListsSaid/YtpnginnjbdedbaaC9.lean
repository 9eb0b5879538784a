import Derived.Test.YtpnginnjbdedbaaC8
import Derived.Test.YtpnginnjbdedbaaRows
import Derived.Test.YtpnginnjbdedbaaC1
import Derived.WalkKit
import Derived.ProofKit
import Derived.OpenShut
import Derived.Carry
import Derived.JoinedCond
import Derived.ChangeSlices
/- The reference's Gcd (printed by gen_rgcd.py). -/
namespace Go.Proofs.Ytpnginnjbdedbaa
open Go.RowKit
open Wh
set_option linter.unusedSimpArgs false
set_option linter.unusedVariables false

theorem gcd_turn (x y : Nat) : Nat.gcd y (x % y) = Nat.gcd x y := by rw [Nat.gcd_comm y (x % y), ← Nat.gcd_rec, Nat.gcd_comm]
theorem len_nought {y : Nat} (h : (wds y).length = 0) : y = 0 := by
  rcases Nat.eq_zero_or_pos y with h0 | h0
  · exact h0
  · rw [wds_pos h0] at h; simp at h
theorem len_posn {y : Nat} (h : 0 < y) : 0 < (wds y).length := by rw [wds_pos h]; simp
set_option maxRecDepth 100000 in
set_option maxHeartbeats 4000000 in
theorem rgcd_any {w : World} {na nb : Bool} {sa sb : ByteArray} (ha : Fmd sa) (hb : Fmd sb) :
    Calls Try.prog 18 #[.agg #[.bool na, .string sa], .agg #[.bool nb, .string sb]] w (Calm w (enc ((Nat.gcd (bval sa.data.toList) (bval sb.data.toList) : Nat) : Int))) := by
  have HA := Lib.hid (fun W : World => words_any (w := W) (by have := ha.2; omega) ha.1)
  have HB := Lib.hid (fun W : World => words_any (w := W) (by have := hb.2; omega) hb.1)
  have Hla := Lib.hid (And.intro ha.len hb.len)
  have Hab := Lib.hid (And.intro ha hb)
  obtain ⟨a, hae⟩ : ∃ a, a = bval sa.data.toList := ⟨_, rfl⟩
  obtain ⟨b, hbe⟩ : ∃ b, b = bval sb.data.toList := ⟨_, rfl⟩
  rw [← hae] at HA
  rw [← hbe] at HB
  rw [← hae, ← hbe] at Hla
  have Hnum := Lib.hid (show num (na, sa) = sgn na a ∧ num (nb, sb) = sgn nb b from ⟨by rw [hae]; rfl, by rw [hbe]; rfl⟩)
  (try rw [← hae, ← hbe])
  clear hae hbe ha hb
  have E0 := Lib.hid (Env.nil w)
  go_enter Try.func18, Try.ntmps18
  obtain ⟨zs, zb, ez⟩ : ∃ s b', enc ((Nat.gcd a b : Nat) : Int) = .agg #[.bool s, .string b'] := ⟨_, _, rfl⟩
  go_upto_region 1 with fail
  have E1 : Hid (Env w (((w.alloc (.cells #[.bool na, .string sa] 26)).alloc (.cells #[.bool nb, .string sb] 26)).alloc (.cells #[.bool false, .string ⟨#[]⟩] 26)) [(w.heap.size + 1 + 1, 26, #[.bool false, .string ⟨#[]⟩]), (w.heap.size + 1, 26, #[.bool nb, .string sb]), (w.heap.size, 26, #[.bool na, .string sa])]) := Lib.hid (by have h := (Env.new (Env.new (Env.new E0.out 26 #[.bool na, .string sa]) 26 #[.bool nb, .string sb]) 26 #[.bool false, .string ⟨#[]⟩]); (try simp only [World.size_alloc] at h); exact h)
  generalize (((w.alloc (.cells #[.bool na, .string sa] 26)).alloc (.cells #[.bool nb, .string sb] 26)).alloc (.cells #[.bool false, .string ⟨#[]⟩] 26)) = W1 at E1 ⊢
  have Cf1 := Lib.hid (fun (W : World) (h : Env w W [(w.heap.size + 1 + 1, 26, #[.bool false, .string ⟨#[]⟩]), (w.heap.size + 1, 26, #[.bool nb, .string sb]), (w.heap.size, 26, #[.bool na, .string sa])]) => (show W.cell? ⟨w.heap.size, 0, none⟩ = some (.bool na) ∧ W.cell? ⟨w.heap.size, 1, none⟩ = some (.string sa) ∧ W.cell? ⟨w.heap.size + 1, 0, none⟩ = some (.bool nb) ∧ W.cell? ⟨w.heap.size + 1, 1, none⟩ = some (.string sb) from ⟨(Env.at_ h 2 rfl).cell 0, (Env.at_ h 2 rfl).cell 1, (Env.at_ h 1 rfl).cell 0, (Env.at_ h 1 rfl).cell 1⟩))
  refine wp_region_noPanic ?_
  refine wp_region_HK (fun w' => w'.cell? ⟨w.heap.size, 0, none⟩ = some (.bool na) ∧ w'.cell? ⟨w.heap.size, 1, none⟩ = some (.string sa) ∧ w'.cell? ⟨w.heap.size + 1, 0, none⟩ = some (.bool nb) ∧ w'.cell? ⟨w.heap.size + 1, 1, none⟩ = some (.string sb)) 6 (by kernel_rfl) (Cf1.out _ E1.out.drew) (fun hHeld => ?_)
  refine wpHK_pure (i := 0) (oi := Oper.mk (some 9) _ _ _ _ _) (v := ?_) rfl (by kernel_rfl) (by kernel_rfl) (by kernel_rfl) (fun _ _ _ h => h) (Or.inl ⟨by rfl, ?_⟩) ?_
  rotate_left
  · (intro w' _; go_simp; try with_reducible rfl)
  try simp only [Act.put, List.setIfInBounds_toArray, List.set_cons_zero, List.set_cons_succ]
  refine wpHK_pure (i := 3) (oi := Oper.mk (some 12) _ _ _ _ _) (v := ?_) rfl (by kernel_rfl) (by kernel_rfl) (by kernel_rfl) (fun _ _ _ h => h) (Or.inl ⟨by rfl, ?_⟩) ?_
  rotate_left
  · (intro w' _; go_simp; try with_reducible rfl)
  try simp only [Act.put, List.setIfInBounds_toArray, List.set_cons_zero, List.set_cons_succ]
  refine wpHK_take (i := 1) (oi := Oper.mk (some 10) _ _ _ _ _) (v := ?_) rfl (by kernel_rfl) (by kernel_rfl) (by kernel_rfl) (by kernel_rfl) (fun _ _ _ h => h) (Or.inl ⟨by rfl, ?_⟩) (by assumption) ?_
  rotate_left
  · (intro w' hSw; (try dsimp only at hSw); (obtain ⟨s0, s1, s2, s3⟩ := hSw); go_simp; try with_reducible rfl)
  try simp only [Act.put, List.setIfInBounds_toArray, List.set_cons_zero, List.set_cons_succ]
  refine wpHK_take (i := 4) (oi := Oper.mk (some 13) _ _ _ _ _) (v := ?_) rfl (by kernel_rfl) (by kernel_rfl) (by kernel_rfl) (by kernel_rfl) (fun _ _ _ h => h) (Or.inl ⟨by rfl, ?_⟩) (by assumption) ?_
  rotate_left
  · (intro w' hSw; (try dsimp only at hSw); (obtain ⟨s0, s1, s2, s3⟩ := hSw); go_simp; try with_reducible rfl)
  try simp only [Act.put, List.setIfInBounds_toArray, List.set_cons_zero, List.set_cons_succ]
  refine wpHK_one (j := 2) (o := Oper.mk (some 11) _ _ _ _ _) rfl (by kernel_rfl) (fun K hK => ?_)
  go_simp
  refine (HA.out _).mono ?_
  rintro e V1 ⟨A1, m1, c1, rfl, hm, hmc, hcl, hr, hb⟩
  have F1 := Lib.hid (Env.call E1.out.drew hb)
  have R1 := Lib.hid (And.intro hm.out (And.intro hmc (And.intro hcl hr)))
  have hbl := Lib.hid hb
  clear hm hmc hcl hr hb
  refine hK.out _ _ (Cf1.out _ F1.out) (fun _ => ?_)
  clear hK K hHeld
  have hHeld := (Cf1.out _ F1.out)
  try simp only [Act.put, List.setIfInBounds_toArray, List.set_cons_zero, List.set_cons_succ]
  refine wpHK_one (j := 5) (o := Oper.mk (some 14) _ _ _ _ _) rfl (by kernel_rfl) (fun K hK => ?_)
  go_simp
  refine (HB.out _).mono ?_
  rintro e V2 ⟨A2, m2, c2, rfl, hm, hmc, hcl, hr, hb⟩
  have F2 := Lib.hid (Env.call F1.out hb)
  have R2 := Lib.hid (And.intro hm.out (And.intro hmc (And.intro hcl hr)))
  have hbl := Lib.hid hb
  clear hm hmc hcl hr hb
  have R1' := Lib.hid (And.intro R1.out.1 (And.intro R1.out.2.1 (And.intro R1.out.2.2.1 ((R1.out.2.2.2.below hbl.out).more hbl.out.size))))
  clear R1 hbl
  have R1 := R1'
  clear R1'
  refine hK.out _ _ (Cf1.out _ F2.out) (fun _ => ?_)
  clear hK K hHeld
  have hHeld := (Cf1.out _ F2.out)
  try simp only [Act.put, List.setIfInBounds_toArray, List.set_cons_zero, List.set_cons_succ]
  refine wpHK_pure (i := 6) (oi := Oper.mk (some 5) _ _ _ _ _) (v := ?_) rfl (by kernel_rfl) (by kernel_rfl) (by kernel_rfl) (fun _ _ _ h => h) (Or.inl ⟨by rfl, ?_⟩) ?_
  rotate_left
  · (intro w' _; go_simp; try with_reducible rfl)
  try simp only [Act.put, List.setIfInBounds_toArray, List.set_cons_zero, List.set_cons_succ]
  refine wpHK_pure (i := 7) (oi := Oper.mk (some 6) _ _ _ _ _) (v := ?_) rfl (by kernel_rfl) (by kernel_rfl) (by kernel_rfl) (fun _ _ _ h => h) (Or.inl ⟨by rfl, ?_⟩) ?_
  rotate_left
  · (intro w' _; go_simp; try with_reducible rfl)
  try simp only [Act.put, List.setIfInBounds_toArray, List.set_cons_zero, List.set_cons_succ]
  refine wpHK_done (by kernel_rfl) ?_ _
  refine NoPanic.normal ?_
  go_wp2_with fail
  go_loopg [5, 6] b (fun k xv yv wr => ∃ (A : Option Addr) (n c : Nat) (A' : Option Addr) (n' c' x y : Nat), Hid (k = y) ∧ xv = .slice A n c ∧ yv = .slice A' n' c' ∧ Hid (n = (wds x).length ∧ n ≤ c ∧ c ≤ 9223372036854775807 ∧ ReadsW wr wr.heap.size A (wds x)) ∧ Hid (n' = (wds y).length ∧ n' ≤ c' ∧ c' ≤ 9223372036854775807 ∧ ReadsW wr wr.heap.size A' (wds y)) ∧ n ≤ 25000001 ∧ n' ≤ 25000001 ∧ Hid (Nat.gcd x y = Nat.gcd a b) ∧ Hid (Env w wr [(w.heap.size + 1 + 1, 26, #[.bool false, .string ⟨#[]⟩]), (w.heap.size + 1, 26, #[.bool nb, .string sb]), (w.heap.size, 26, #[.bool na, .string sa])]))
  case atStart => exact ⟨_, _, _, _, _, _, a, b, Lib.hid rfl, rfl, rfl, R1, R2, by rw [R1.out.1]; exact Hla.out.1, by rw [R2.out.1]; exact Hla.out.2, Lib.hid rfl, F2⟩
  case round =>
    obtain ⟨A, n, c, A', n', c', x, y, Hk, rfl, rfl, Hx, Hy, hn, hn', HG, HE⟩ := hrel
    rcases Nat.eq_zero_or_pos y with h0 | h0
    case inr =>
      have hp := len_posn h0
      have hp' : 0 < n' := by rw [Hy.out.1]; exact hp
      have HD := Lib.hid (rdivided_any (d := c') Hx.out.2.2.2 Hy.out.2.2.2 (Nat.le_refl _) Hx.out.1 Hy.out.1 (by omega) (by omega) Hx.out.2.1 Hx.out.2.2.1 h0)
      have Hmod := Lib.hid (Nat.mod_lt x h0)
      have HL := Lib.hid (len_mono (Nat.le_of_lt (Nat.mod_lt x h0)))
      clear h0 hp
      go_wp2_with fail
      refine HD.out.mono ?_
      rintro e w2 ⟨A1, n1, c1, A2, n2, c2, rfl, hn12, hc1, hc2, hc1', hc2', hr1, hr2, hb⟩
      have Hy2 := Lib.hid (And.intro Hy.out.1 (And.intro Hy.out.2.1 (And.intro Hy.out.2.2.1 ((Hy.out.2.2.2.below hb).more hb.size))))
      have Hr2 := Lib.hid (And.intro hn12.out.2 (And.intro hc2 (And.intro hc2' hr2)))
      have HE2 := Lib.hid (Env.call HE.out hb)
      clear hn12 hc1 hc2 hc1' hc2' hr1 hr2 hb
      go_wp2_with fail
      go_roundg (x % y)
      case measure => rw [Hk.out]; exact Hmod.out
      case rel => exact ⟨_, _, _, _, _, _, y, x % y, Lib.hid rfl, rfl, rfl, Hy2, Hr2, hn', by have h1 := Hr2.out.1; have h2 := Hy.out.1; have h3 := HL.out; omega, Lib.hid ((gcd_turn x y).trans HG.out), HE2⟩
    case inl =>
      subst h0
      have hz : n' = 0 := by rw [Hy.out.1, wds_zero]; rfl
      subst hz
      have hg := HG.out
      rw [Nat.gcd_zero_right] at hg
      subst hg
      have HM := made_any (w := wr) (neg := false) Hx.out.2.2.2 (Nat.le_refl _) Hx.out.1 Hx.out.2.1 Hx.out.2.2.1 (by omega) (wd_w _)
      rw [val_w, show sgn false (Nat.gcd a b) = ((Nat.gcd a b : Nat) : Int) from rfl, ez] at HM
      have HM' := Lib.hid HM
      clear HM
      go_wp2_with fail
      refine HM'.out.mono ?_
      rintro e w3 ⟨rfl, hb⟩
      have HE3 := Lib.hid (Env.call HE.out hb)
      clear hb
      have n4 := Env.at_ HE3.out 0 rfl
      have y0 := n4.cell 0
      have y1 := n4.cell 1
      have y2 := n4.frozen 0
      have y3 := n4.frozen 1
      simp at y0 y1
      have hge := HE3.out.1.size
      clear n4
      go_wp2_with fail
      have n5 := ((Env.at_ HE3.out 0 rfl).set_ 0 (.bool zs)).set_ 1 (.string zb)
      have d0 := n5.cell 0
      have d1 := n5.cell 1
      simp at d0 d1
      refine bodyPost_ret (v := .agg #[.bool zs, .string zb]) (by simp [results, Try.results18, go_sem, d0, d1]) rfl ?_
      exact ⟨by rw [ez], ((HE3.out.1).setCell (by show w.heap.size ≤ w.heap.size + 1 + 1; omega) _).setCell (by show w.heap.size ≤ w.heap.size + 1 + 1; omega) _⟩
end Go.Proofs.Ytpnginnjbdedbaa

/- The law's long, bad, is, arg. -/
namespace Go.Proofs.Ytpnginnjbdedbaa
open Go.RowKit
open Wh
set_option linter.unusedSimpArgs false

def isLong (a : Bool × ByteArray) : Bool := decide (400 < a.2.size) && mayB a.1 a.2
def isBad (a : Bool × ByteArray) : Bool := !mayB a.1 a.2
theorem any_take {f : Bool × ByteArray → Bool} {l : List (Bool × ByteArray)} {i : Nat} (h : i < l.length) (h0 : (l.take i).any f = false) (h1 : f l[i] = false) : (l.take (i + 1)).any f = false := by
  rw [List.take_succ_eq_append_getElem h, List.any_append, h0]
  simp [h1]
theorem any_hit {f : Bool × ByteArray → Bool} {l : List (Bool × ByteArray)} {i : Nat} (h : i < l.length) (h1 : f l[i] = true) : l.any f = true := List.any_eq_true.2 ⟨_, List.getElem_mem h, h1⟩
set_option maxRecDepth 100000 in
set_option maxHeartbeats 4000000 in
theorem bad_any {w : World} {B n c : Nat} {A : Option Addr} {l : List (Bool × ByteArray)} (hr : ReadsWh w B A l) (hB : B ≤ w.heap.size) (hn : n = l.length) (hnl : n ≤ 1000000000) :
    Calls Try.prog 16 #[.slice A n c] w (Calm w (.bool (l.any isBad))) := by
  have Hn := Lib.hid hn
  have Hr := Lib.hid hr
  have HM := Lib.hid (fun (W : World) (n : Bool) (s : ByteArray) => may_any (w := W) (n := n) (s := s))
  clear hn hr
  go_enter Try.func16, Try.ntmps16
  go_wp2_with fail
  go_loopg [3] n (fun k iv wr => ∃ (i : Nat), iv = .int .i64 (i : Int) ∧ k = n - i ∧ i ≤ n ∧ Below w.heap.size w wr ∧ Hid ((l.take i).any isBad = false))
  case atStart => exact ⟨0, rfl, by omega, by omega, Below.refl _ _, by rw [List.take_zero]; rfl⟩
  case round =>
    obtain ⟨i, rfl, hk, hi, hbel, ht⟩ := hrel
    have Hk := Lib.hid hk
    clear hk
    by_cases hin : i < n
    · have hil : i < l.length := by rw [← Hn.out]; exact hin
      obtain ⟨ad, rfl, hb1, c0, c1⟩ := ReadsWh.at_ (Reads.below Hr.out (hbel.mono hB)) hil
      have hii : (i : Int) < (n : Int) := by omega
      have Hhit := Lib.hid (any_hit (f := isBad) hil)
      have Htk := Lib.hid (any_take (f := isBad) hil ht.out)
      generalize l[i] = a at c0 c1 Hhit Htk
      obtain ⟨na, sa⟩ := a
      dsimp only at c0 c1
      go_wp2_with fail
      refine (HM.out _ _ _).mono ?_
      rintro e w2 ⟨rfl, h2⟩
      have hb2 := hbel.trans (h2.mono hbel.size)
      clear h2 c0 c1
      obtain ⟨b, hb⟩ : ∃ b, b = mayB na sa := ⟨_, rfl⟩
      rw [← hb]
      have Hb := Lib.hid hb
      clear hb
      cases b
      · go_wp2_with fail
        go_ret
        exact ⟨by rw [Hhit.out (by show (!mayB na sa) = true; rw [← Hb.out]; rfl)]; rfl, hb2⟩
      · go_wp2_with fail
        go_roundg (n - (i + 1))
        case measure => have := Hk.out; omega
        case rel => exact ⟨i + 1, rfl, rfl, by omega, hb2, Lib.hid (Htk.out (by show (!mayB na sa) = false; rw [← Hb.out]; rfl))⟩
    · have hii : (n : Int) ≤ (i : Int) := by omega
      have hfin : l.any isBad = false := by
        have h1 := ht.out
        rw [show i = l.length by have := Hn.out; omega, List.take_length] at h1
        exact h1
      have Hfin := Lib.hid hfin
      clear hfin
      go_wp2_with fail
      go_ret
      exact ⟨by rw [Hfin.out]; rfl, hbel⟩
set_option maxRecDepth 100000 in
set_option maxHeartbeats 4000000 in
theorem long_any {w : World} {B n c : Nat} {A : Option Addr} {l : List (Bool × ByteArray)} (hr : ReadsWh w B A l) (hB : B ≤ w.heap.size) (hn : n = l.length) (hnl : n ≤ 1000000000) :
    Calls Try.prog 12 #[.slice A n c] w (Calm w (.bool (l.any isLong))) := by
  have Hn := Lib.hid hn
  have Hr := Lib.hid hr
  have HM := Lib.hid (fun (W : World) (n : Bool) (s : ByteArray) => may_any (w := W) (n := n) (s := s))
  clear hn hr
  go_enter Try.func12, Try.ntmps12
  go_wp2_with fail
  go_loopg [3] n (fun k iv wr => ∃ (i : Nat), iv = .int .i64 (i : Int) ∧ k = n - i ∧ i ≤ n ∧ Below w.heap.size w wr ∧ Hid ((l.take i).any isLong = false))
  case atStart => exact ⟨0, rfl, by omega, by omega, Below.refl _ _, by rw [List.take_zero]; rfl⟩
  case round =>
    obtain ⟨i, rfl, hk, hi, hbel, ht⟩ := hrel
    have Hk := Lib.hid hk
    clear hk
    by_cases hin : i < n
    · have hil : i < l.length := by rw [← Hn.out]; exact hin
      obtain ⟨ad, rfl, hb1, c0, c1⟩ := ReadsWh.at_ (Reads.below Hr.out (hbel.mono hB)) hil
      have hii : (i : Int) < (n : Int) := by omega
      have Hhit := Lib.hid (any_hit (f := isLong) hil)
      have Htk := Lib.hid (any_take (f := isLong) hil ht.out)
      generalize l[i] = a at c0 c1 Hhit Htk
      obtain ⟨na, sa⟩ := a
      dsimp only at c0 c1
      by_cases h4 : 400 < sa.size
      · have d4 : decide ((400 : Int) < (sa.size : Int)) = true := decide_eq_true (by omega)
        have e4 := decide_eq_true h4
        have He := Lib.hid e4
        clear e4
        go_wp2_with fail
        refine (HM.out _ _ _).mono ?_
        rintro e w2 ⟨rfl, h2⟩
        have hb2 := hbel.trans (h2.mono hbel.size)
        clear h2 c0 c1
        obtain ⟨b, hb⟩ : ∃ b, b = mayB na sa := ⟨_, rfl⟩
        rw [← hb]
        have Hb := Lib.hid hb
        clear hb
        cases b
        · go_wp2_with fail
          go_roundg (n - (i + 1))
          case measure => have := Hk.out; omega
          case rel => exact ⟨i + 1, rfl, rfl, by omega, hb2, Lib.hid (Htk.out (by show (decide (400 < sa.size) && mayB na sa) = false; rw [← Hb.out, He.out]; rfl))⟩
        · go_wp2_with fail
          go_ret
          exact ⟨by rw [Hhit.out (by show (decide (400 < sa.size) && mayB na sa) = true; rw [← Hb.out, He.out]; rfl)]; rfl, hb2⟩
      · have d4 : decide ((400 : Int) < (sa.size : Int)) = false := decide_eq_false (by omega)
        have He := Lib.hid (decide_eq_false h4)
        go_wp2_with fail
        go_roundg (n - (i + 1))
        case measure => have := Hk.out; omega
        case rel => exact ⟨i + 1, rfl, rfl, by omega, hbel, Lib.hid (Htk.out (by show (decide (400 < sa.size) && mayB na sa) = false; rw [He.out]; rfl))⟩
    · have hii : (n : Int) ≤ (i : Int) := by omega
      have hfin : l.any isLong = false := by
        have h1 := ht.out
        rw [show i = l.length by have := Hn.out; omega, List.take_length] at h1
        exact h1
      have Hfin := Lib.hid hfin
      clear hfin
      go_wp2_with fail
      go_ret
      exact ⟨by rw [Hfin.out]; rfl, hbel⟩

set_option maxRecDepth 100000 in
/-- what is refused -/
theorem arg_any {w : World} : Calls Try.prog 19 #[.agg #[.bool false, .string ⟨#[]⟩], .int .i64 2] w (Calm w (.bool true)) := by
  have HN := Lib.hid (fun W : World => num_any (w := W) (n := 2))
  have hb := Lib.hid ((Below.refl w.heap.size w).alloc (Nat.le_refl _) (.cells #[.bool false, .string ⟨#[]⟩] 26))
  go_enter Try.func19, Try.ntmps19
  go_wp2_with fail
  refine (HN.out _).mono ?_
  rintro e w2 ⟨rfl, rfl⟩
  go_wp2_with fail
  go_ret
  exact ⟨rfl, hb.out⟩
theorem bytes_bl {n k : Nat} (h : (bys n).length ≤ k) : bl n ≤ 8 * k := bl_lt.2 (by rw [← pow_bytes]; exact lt_of_bys h)
theorem fits_iff {z : Int} {s : Bool} {b : ByteArray} (he : enc z = .agg #[.bool s, .string b]) : fits z ↔ b.size ≤ 16384 := by
  unfold enc at he
  injection he with he
  have h2 : (⟨(bys z.natAbs).toArray⟩ : ByteArray) = b := by
    have := congrArg (fun x => x[1]?) he
    simpa using this
  have h3 : b.size = (bys z.natAbs).length := by rw [← h2]; exact List.size_toArray
  rw [h3]
  unfold fits
  constructor
  · exact fun h => bl_bytes (k := 16384) h
  · intro h
    exact bytes_bl (k := 16384) h
set_option maxRecDepth 100000 in
/-- an answer that fits -/
theorem is_yes {w : World} {z : Int} {s : Bool} {b : ByteArray} (hf : fits z) (he : enc z = .agg #[.bool s, .string b]) :
    Calls Try.prog 20 #[.agg #[.bool s, .string b], .int .i64 0, .agg #[.bool s, .string b]] w (Calm w (.bool true)) := by
  have HN := Lib.hid (fun W : World => num_any (w := W) (n := 0))
  have HF := Lib.hid (fun W : World => fits_any (w := W) (n := s) (s := b))
  rw [decide_eq_true ((fits_iff he).1 hf)] at HF
  have E0 := Lib.hid (Env.new (Env.new (Env.nil w) 26 #[.bool s, .string b]) 26 #[.bool s, .string b])
  clear hf he
  go_enter Try.func20, Try.ntmps20
  go_upto_region 1 with fail
  rw [World.size_alloc] at E0
  generalize ((w.alloc (.cells #[.bool s, .string b] 26)).alloc (.cells #[.bool s, .string b] 26)) = W1 at E0 ⊢
  have c0 := (Env.at_ E0.out 0 rfl).cell 0
  have c1 := (Env.at_ E0.out 0 rfl).cell 1
  simp at c0 c1
  go_wp2_with fail
  refine (HF.out _).mono ?_
  rintro e w2 ⟨rfl, h2⟩
  have E2 := Lib.hid (E0.out.call h2)
  clear c0 c1 h2
  have c0 := (Env.at_ E2.out 0 rfl).cell 0
  have c1 := (Env.at_ E2.out 0 rfl).cell 1
  have d0 := (Env.at_ E2.out 1 rfl).cell 0
  have d1 := (Env.at_ E2.out 1 rfl).cell 1
  simp at c0 c1 d0 d1
  go_wp2_with fail
  refine (HN.out _).mono ?_
  rintro e w3 ⟨rfl, rfl⟩
  go_wp2_with fail
  go_ret
  exact ⟨rfl, E2.out.1⟩
set_option maxRecDepth 100000 in
/-- an answer that is too great -/
theorem is_no {w : World} {z : Int} {s : Bool} {b : ByteArray} (hf : ¬ fits z) (he : enc z = .agg #[.bool s, .string b]) :
    Calls Try.prog 20 #[.agg #[.bool false, .string ⟨#[]⟩], .int .i64 4, .agg #[.bool s, .string b]] w (Calm w (.bool true)) := by
  have HN := Lib.hid (fun W : World => num_any (w := W) (n := 4))
  have HF := Lib.hid (fun W : World => fits_any (w := W) (n := s) (s := b))
  rw [decide_eq_false (fun h => hf ((fits_iff he).2 h))] at HF
  have E0 := Lib.hid (Env.new (Env.new (Env.nil w) 26 #[.bool false, .string ⟨#[]⟩]) 26 #[.bool s, .string b])
  clear hf he
  go_enter Try.func20, Try.ntmps20
  go_upto_region 1 with fail
  rw [World.size_alloc] at E0
  generalize ((w.alloc (.cells #[.bool false, .string ⟨#[]⟩] 26)).alloc (.cells #[.bool s, .string b] 26)) = W1 at E0 ⊢
  have c0 := (Env.at_ E0.out 0 rfl).cell 0
  have c1 := (Env.at_ E0.out 0 rfl).cell 1
  simp at c0 c1
  go_wp2_with fail
  refine (HF.out _).mono ?_
  rintro e w2 ⟨rfl, h2⟩
  have E2 := Lib.hid (E0.out.call h2)
  clear c0 c1 h2
  have d0 := (Env.at_ E2.out 1 rfl).cell 0
  have d1 := (Env.at_ E2.out 1 rfl).cell 1
  simp at d0 d1
  go_wp2_with fail
  refine (HN.out _).mono ?_
  rintro e w3 ⟨rfl, rfl⟩
  go_wp2_with fail
  go_ret
  exact ⟨rfl, E2.out.1⟩
end Go.Proofs.Ytpnginnjbdedbaa

/- The laws' common contracts: what is refused, what is long or bad, the reference's answers. -/
namespace Go.Proofs.Ytpnginnjbdedbaa
open Go.RowKit
open Wh
set_option linter.unusedSimpArgs false

section
variable {w : World} {na nb : Bool} {sa sb : ByteArray} {z : Int} {s : Bool} {b : ByteArray}
/-- refused: nothing, and an error -/
def T2no (w : World) (cd : Int) (e : Ending) (w' : World) : Prop := e = .returned (.tuple #[.agg #[.bool false, .string ⟨#[]⟩], .int .i64 cd]) ∧ Below w.heap.size w w'
theorem add_bad (hm : ¬ May2 (na, sa) (nb, sb)) : Calls Try.prog 27 #[.agg #[.bool na, .string sa], .agg #[.bool nb, .string sb]] w (T2no w 2) := wadd_any.mono fun _ _ h => ⟨h.2.2.1 hm, h.2.2.2⟩
theorem sub_bad (hm : ¬ May2 (na, sa) (nb, sb)) : Calls Try.prog 28 #[.agg #[.bool na, .string sa], .agg #[.bool nb, .string sb]] w (T2no w 2) := wsub_any.mono fun _ _ h => ⟨h.2.2.1 hm, h.2.2.2⟩
theorem mul_bad (hm : ¬ May2 (na, sa) (nb, sb)) : Calls Try.prog 29 #[.agg #[.bool na, .string sa], .agg #[.bool nb, .string sb]] w (T2no w 2) := wmul_any.mono fun _ _ h => ⟨h.2.2.1 hm, h.2.2.2⟩
theorem cmp_bad (hm : ¬ May2 (na, sa) (nb, sb)) : Calls Try.prog 26 #[.agg #[.bool na, .string sa], .agg #[.bool nb, .string sb]] w (Calm w (.tuple #[.int .i64 0, .int .i64 2])) :=
  wcmp_any.mono fun _ _ h => ⟨h.2.1 hm, h.2.2⟩
theorem long_two : Calls Try.prog 12 #[.slice (some ⟨w.heap.size, 0, none⟩) 2 2] (w.alloc (.cells #[.bool na, .string sa, .bool nb, .string sb] 26)) (Calm (w.alloc (.cells #[.bool na, .string sa, .bool nb, .string sb] 26)) (.bool (isLong (na, sa) || isLong (nb, sb)))) := by
  have h := long_any (c := 2) (blk_pair (w := w) (na, sa) (nb, sb)) (by simp) (n := 2) rfl (by omega)
  rw [List.any_cons, List.any_cons, List.any_nil, Bool.or_false] at h
  exact h
theorem bad_two : Calls Try.prog 16 #[.slice (some ⟨w.heap.size, 0, none⟩) 2 2] (w.alloc (.cells #[.bool na, .string sa, .bool nb, .string sb] 26)) (Calm (w.alloc (.cells #[.bool na, .string sa, .bool nb, .string sb] 26)) (.bool (isBad (na, sa) || isBad (nb, sb)))) := by
  have h := bad_any (c := 2) (blk_pair (w := w) (na, sa) (nb, sb)) (by simp) (n := 2) rfl (by omega)
  rw [List.any_cons, List.any_cons, List.any_nil, Bool.or_false] at h
  exact h
theorem long_one : Calls Try.prog 12 #[.slice (some ⟨w.heap.size, 0, none⟩) 1 1] (w.alloc (.cells #[.bool na, .string sa] 26)) (Calm (w.alloc (.cells #[.bool na, .string sa] 26)) (.bool (isLong (na, sa)))) := by
  have h := long_any (c := 1) (blk_one (w := w) (na, sa)) (by simp) (n := 1) rfl (by omega)
  rw [List.any_cons, List.any_nil, Bool.or_false] at h
  exact h
theorem bad_one : Calls Try.prog 16 #[.slice (some ⟨w.heap.size, 0, none⟩) 1 1] (w.alloc (.cells #[.bool na, .string sa] 26)) (Calm (w.alloc (.cells #[.bool na, .string sa] 26)) (.bool (isBad (na, sa)))) := by
  have h := bad_any (c := 1) (blk_one (w := w) (na, sa)) (by simp) (n := 1) rfl (by omega)
  rw [List.any_cons, List.any_nil, Bool.or_false] at h
  exact h
theorem calm_eq {F : FuncId} {args : Array Value} {v v' : Value} (h : Calls Try.prog F args w (Calm w v)) (he : v = v') : Calls Try.prog F args w (Calm w v') := he ▸ h
theorem isBad_no {a : Bool × ByteArray} : isBad a = false ↔ MayL a.1 a.2.data.toList := by unfold isBad; rw [← mayB_iff, Bool.not_eq_false']
theorem isBad_yes {a : Bool × ByteArray} : isBad a = true ↔ ¬ MayL a.1 a.2.data.toList := by rw [← isBad_no, Bool.not_eq_false]
theorem short_of {a : Bool × ByteArray} (hl : isLong a = false) (hm : MayL a.1 a.2.data.toList) : a.2.size ≤ 400 := by
  unfold isLong at hl
  rw [mayB_iff.2 hm, Bool.and_true, decide_eq_false_iff_not] at hl
  omega
end
end Go.Proofs.Ytpnginnjbdedbaa

/- Common contracts of WholeTells. -/
namespace Go.Proofs.Ytpnginnjbdedbaa
open Go.RowKit
open Wh
set_option linter.unusedSimpArgs false

section
variable {w : World} {na : Bool} {sa : ByteArray}
abbrev Ranged (z : Int) : Prop := -9223372036854775808 ≤ z ∧ z ≤ 9223372036854775807
theorem neg_bad (hm : ¬ MayL na sa.data.toList) : Calls Try.prog 37 #[.agg #[.bool na, .string sa]] w (T2no w 2) := wneg_any.mono fun _ _ h => ⟨h.2.2.1 hm, h.2.2.2⟩
theorem abs_bad (hm : ¬ MayL na sa.data.toList) : Calls Try.prog 38 #[.agg #[.bool na, .string sa]] w (T2no w 2) := wabs_any.mono fun _ _ h => ⟨h.2.2.1 hm, h.2.2.2⟩
theorem small_bad (hm : ¬ MayL na sa.data.toList) : Calls Try.prog 39 #[.agg #[.bool na, .string sa]] w (Calm w (.tuple #[.int .i64 0, .bool false])) := small_any.mono fun _ _ h => ⟨h.2.1 hm, h.2.2⟩
theorem small_in (hm : MayL na sa.data.toList) (hr : Ranged (num (na, sa))) : Calls Try.prog 39 #[.agg #[.bool na, .string sa]] w (Calm w (.tuple #[.int .i64 (num (na, sa)), .bool true])) := small_any.mono fun _ _ h => ⟨by rw [h.1 hm, if_pos hr], h.2.2⟩
theorem small_out (hm : MayL na sa.data.toList) (hr : ¬ Ranged (num (na, sa))) : Calls Try.prog 39 #[.agg #[.bool na, .string sa]] w (Calm w (.tuple #[.int .i64 0, .bool false])) := small_any.mono fun _ _ h => ⟨by rw [h.1 hm, if_neg hr], h.2.2⟩
theorem sign_bad (hm : ¬ MayL na sa.data.toList) : Calls Try.prog 44 #[.agg #[.bool na, .string sa]] w (Calm w (.int .i64 0)) := wsign_any.mono fun _ _ h => ⟨h.2.1 hm, h.2.2⟩
theorem bits_bad (hm : ¬ MayL na sa.data.toList) : Calls Try.prog 45 #[.agg #[.bool na, .string sa]] w (Calm w (.int .i64 0)) := bits_any.mono fun _ _ h => ⟨h.2.1 hm, h.2.2⟩
theorem bits_told (hm : MayL na sa.data.toList) : Calls Try.prog 45 #[.agg #[.bool na, .string sa]] w (Calm w (.int .i64 ((bl (num (na, sa)).natAbs : Nat) : Int))) := bits_any.mono fun _ _ h => ⟨h.1 hm, h.2.2⟩
theorem bit_no {i : Int} (hi : i ≤ 9223372036854775807) (h : ¬ (MayL na sa.data.toList ∧ 0 ≤ i)) : Calls Try.prog 40 #[.agg #[.bool na, .string sa], .int .i64 i] w (Calm w (.tuple #[.int .i64 0, .int .i64 2])) := (bit_of hi).mono fun _ _ h' => ⟨h'.2.1 h, h'.2.2⟩
theorem bit_told {i : Nat} (hi : i ≤ 9223372036854775807) (hm : MayL na sa.data.toList) : Calls Try.prog 40 #[.agg #[.bool na, .string sa], .int .i64 (i : Int)] w (Calm w (.tuple #[.int .i64 (((num (na, sa)).natAbs / 2 ^ i % 2 : Nat) : Int), .int .i64 0])) :=
  (bit_of (by omega)).mono fun _ _ h' => ⟨h'.1 ⟨hm, Int.natCast_nonneg _⟩, h'.2.2⟩
theorem num_len (hf : Fmd sa) (h : 8 < sa.size) : ¬ Ranged (num (na, sa)) := by
  have hl : sa.data.toList.length = sa.size := Array.length_toList
  have h1 : 256 ^ 8 ≤ bval sa.data.toList := by
    rcases Nat.lt_or_ge (bval sa.data.toList) (256 ^ 8) with h2 | h2
    · exfalso
      have h3 := bys_len h2
      rw [bys_bval _ _ rfl hf.1] at h3
      omega
    · exact h2
  have h2 : (num (na, sa)).natAbs = bval sa.data.toList := sgn_abs _ _
  rintro ⟨h3, h4⟩
  have h5 : (256 : Nat) ^ 8 = 18446744073709551616 := by decide
  omega
theorem rsmall_in (hf : Fmd sa) (hr : Ranged (num (na, sa))) : Calls Try.prog 46 #[.agg #[.bool na, .string sa]] w (Calm w (.tuple #[.int .i64 (num (na, sa)), .bool true])) := by
  rcases Nat.lt_or_ge 8 sa.size with h | h
  · exact absurd hr (num_len hf h)
  · refine (rSmall_short h hf).mono ?_
    rintro e w' ⟨y, he, hy, hb⟩
    exact ⟨by rw [he, hy hr, decide_eq_true hr], hb⟩
theorem rsmall_out (hf : Fmd sa) (hr : ¬ Ranged (num (na, sa))) : Calls Try.prog 46 #[.agg #[.bool na, .string sa]] w (fun e w' => ∃ y : Int, e = .returned (.tuple #[.int .i64 y, .bool false]) ∧ Below w.heap.size w w') := by
  rcases Nat.lt_or_ge 8 sa.size with h | h
  · exact (rSmall_long h).mono fun e w' ⟨he, hb⟩ => ⟨0, he, hb⟩
  · refine (rSmall_short h hf).mono ?_
    rintro e w' ⟨y, he, hy, hb⟩
    exact ⟨y, by rw [he, show decide (-9223372036854775808 ≤ num (na, sa) ∧ num (na, sa) ≤ 9223372036854775807) = false from decide_eq_false hr], hb⟩
end
end Go.Proofs.Ytpnginnjbdedbaa

/- Lists of whole numbers: rows of one's own, plain laws. -/
namespace Go.Proofs.Ytpnginnjbdedbaa
open Go.RowKit
open Wh
set_option linter.unusedSimpArgs false
set_option linter.unusedVariables false

theorem infoWh : (Try.prog.info? 26).map (fun i => (i.zero, i.size, i.bytes)) = some (some (.agg #[.bool false, .string ⟨#[]⟩]), 2, 24) := by kernel_rfl
theorem wcs_len (l : List (Bool × ByteArray)) : (l.flatMap wcs).length = 2 * l.length := by
  induction l with
  | nil => rfl
  | cons a r ih => rw [List.flatMap_cons, List.length_append, ih, List.length_cons]; show 2 + _ = _; omega
theorem wcs_one (l : List (Bool × ByteArray)) : ∀ u ∈ l.flatMap wcs, u.oneCell' = true := by
  intro u hu
  obtain ⟨a, _, ha⟩ := List.mem_flatMap.1 hu
  simp only [wcs, List.mem_cons, List.not_mem_nil, or_false] at ha
  rcases ha with rfl | rfl <;> rfl
/-- numbers in a row of one's own -/
def OwnWh (w : World) (B : Nat) (v : Value) (l : List (Bool × ByteArray)) : Prop := w.ownsRow B 26 2 v l.length (l.flatMap wcs)
theorem OwnWh.form {w : World} {B : Nat} {v : Value} {l : List (Bool × ByteArray)} (h : OwnWh w B v l) : ∃ A c, v = .slice A l.length c ∧ l.length ≤ c := by
  rcases h.2 with ⟨rfl, h0⟩ | ⟨g, cap, cur, rfl, _, _, hc, hm, _⟩
  · exact ⟨none, 0, by rw [h0], by omega⟩
  · exact ⟨_, cap, rfl, hc⟩
theorem OwnWh.reads {w : World} {B n c : Nat} {A : Option Addr} {l : List (Bool × ByteArray)} (h : OwnWh w B (.slice A n c) l) : ReadsWh w w.heap.size A l := by
  obtain ⟨A', c', e, h1⟩ := h.form
  injection e with e1 e2 e3
  subst e2
  exact Reads.of_own h
theorem ReadsWh.take {w : World} {B : Nat} {A : Option Addr} {l m : List (Bool × ByteArray)} (h : ReadsWh w B A (l ++ m)) : ReadsWh w B A l := by
  refine ⟨by rw [wcs_len]; omega, fun hn => ?_⟩
  obtain ⟨ad, e, hb, hc⟩ := h.2 (by rw [List.length_append]; omega)
  refine ⟨ad, e, hb, fun j u hu => hc j u ?_⟩
  rw [List.flatMap_append, List.getElem?_append_left (List.getElem?_eq_some_iff.1 hu).1]
  exact hu
theorem ReadsWh.last {w : World} {B : Nat} {A : Option Addr} {l : List (Bool × ByteArray)} {a : Bool × ByteArray} (h : ReadsWh w B A (l ++ [a])) : ∃ ad, A = some ad ∧ ad.block < B ∧ w.cell? (ad.add (l.length * 2)) = some (.bool a.1) ∧ w.cell? ⟨(ad.add (l.length * 2)).block, (ad.add (l.length * 2)).off + 1, none⟩ = some (.string a.2) := by
  have := h.at_ (k := l.length) (by simp)
  simpa using this
/-- no row yet -/
theorem OwnWh.empty (w : World) : OwnWh (w.alloc (.cells #[] 26)) w.heap.size (.slice (some ⟨w.heap.size, 0, none⟩) 0 0) [] := by
  refine ⟨by simp, .inr ⟨_, 0, _, rfl, Nat.le_refl _, heap_alloc_new w _, by simp, by unfold maxLen; omega, by simp, ?_⟩⟩
  simp
theorem OwnWh.nil (w : World) (B : Nat) : OwnWh w B (.slice none 0 0) [] := World.ownsRow_nil w B _ 2
/-- append(row, l...) -/
theorem wpWh_append {w : World} {ops : Array Oper} {rest : List Oper} {o : Oper} {a : Act} {Q : Exit → Act → World → Prop} (hgd : o.guard = none) (s x : Operand)
    (ho : o.op = .call { callee := .builtin .append, args := #[s, x], argTypes := #[22, 22] }) (B : Nat) (v : Value) (l m : List (Bool × ByteArray)) (hown : OwnWh w B v l) (hs : a.eval s = v)
    {B' : Nat} {A : Option Addr} {k c : Nat} (hx : a.eval x = .slice A k c) (hk : k = m.length) (hr : ReadsWh w B' A m) (hlen : l.length ≤ 1000000000) (hlm : m.length ≤ 1000000000) (hbase : B ≤ w.heap.size)
    (h : ∀ A' n' c' w', OwnWh w' B (.slice A' n' c') (l ++ m) → n' = l.length + m.length → n' ≤ c' → w.grownBy w' v.ownBlock → (∀ w0, Below B w0 w → Below B w0 w') → wpList Try.prog ops Q rest (a.put o.dst (.slice A' n' c')) w') :
    wpList Try.prog ops Q (o :: rest) a w := by
  obtain ⟨i0, hi, hz0, hz1, hz2⟩ := info_parts infoWh
  subst hk
  refine wpList_append_any _ hgd s x 22 ho B 26 i0 (.agg #[.bool false, .string ⟨#[]⟩]) 2 24 Try.underlying22 hi hz0 hz1 hz2 rfl (by decide) v l.length (l.flatMap wcs) hs hown _ _ m.length c (m.flatMap wcs) hx hr (wcs_one _) (by unfold maxLen; omega) (by omega) hbase ?_
  intro v' w' h1 h2 h3
  have h4 : OwnWh w' B v' (l ++ m) := by
    unfold OwnWh
    rw [List.length_append, List.flatMap_append]
    exact h1
  obtain ⟨A', c', rfl, hc'⟩ := h4.form
  exact h A' _ c' w' h4 (List.length_append ..) hc' h2 (fun w0 hb => hb.grown h2 hbase (fun k hk => (World.ownsRow.lt hown k hk).1))
theorem OwnWh.alloc {w : World} {B : Nat} {v : Value} {l : List (Bool × ByteArray)} (h : OwnWh w B v l) (o : Obj) : OwnWh (w.alloc o) B v l := World.ownsRow.alloc h o
theorem OwnWh.kept {w w' : World} {B : Nat} {v : Value} {l : List (Bool × ByteArray)} (h : OwnWh w B v l) (hb : Below w.heap.size w w') : OwnWh w' B v l := by
  refine ⟨h.1, ?_⟩
  rcases h.2 with h' | ⟨g, cap, cur, hv, hg, hh, r⟩
  · exact .inl h'
  · exact .inr ⟨g, cap, cur, hv, hg, (hb.block g (Array.getElem?_eq_some_iff.1 hh).1).trans hh, r⟩
theorem enc_fl {z : Int} (h : (bys z.natAbs).length ≤ 100000000) : ∃ s b, enc z = .agg #[.bool s, .string b] ∧ num (s, b) = z ∧ Fmd b := by
  refine ⟨_, _, rfl, ?_, ?_, ?_⟩
  · show sgn _ (bval (bys z.natAbs)) = z
    rw [bval_b, sgn_of]
  · exact formed_b _
  · show (bys z.natAbs).toArray.size ≤ 100000000
    rw [List.size_toArray]; exact h
theorem sum_sb : ∀ {zs : List Int} {P : Nat}, (∀ z ∈ zs, z.natAbs ≤ P) → zs.sum.natAbs ≤ zs.length * P
  | [], _, _ => by simp
  | z :: r, P, h => by
    have h1 := sum_sb (zs := r) (fun y hy => h y (by simp [hy]))
    have h2 := h z (by simp)
    rw [List.sum_cons, List.length_cons, Nat.add_mul, Nat.one_mul]
    omega
theorem bys_few {m j e : Nat} (he : e = 8 * j) (h : m < 2 ^ e) : (bys m).length ≤ j := bys_len (by rw [pow_bytes, ← he]; exact h)
theorem sum_small {zs : List Int} {k : Nat} (hk : k = 3200) (h : ∀ z ∈ zs, SB k z) (hl : zs.length ≤ 60) : (bys zs.sum.natAbs).length ≤ 401 ∧ fits zs.sum := by
  have h1 := sum_sb (P := 2 ^ k) (fun z hz => Nat.le_of_lt (h z hz))
  have h2 : zs.length * 2 ^ k ≤ 60 * 2 ^ k := Nat.mul_le_mul_right _ hl
  have h3 : 60 * 2 ^ k < 2 ^ (8 + k) := by
    rw [Nat.pow_add]
    exact Nat.mul_lt_mul_of_pos_right (by decide) (Nat.two_pow_pos k)
  have h4 : zs.sum.natAbs < 2 ^ (8 + k) := by omega
  refine ⟨bys_few (e := 8 + k) (by omega) h4, ?_⟩
  exact Nat.le_trans (bl_lt.2 h4) (by omega)
theorem gcd_small {zs : List Int} {k : Nat} (hk : k = 3200) (h : ∀ z ∈ zs, SB k z) : (bys (gcdl zs)).length ≤ 401 ∧ fits (gcdl zs : Int) := by
  have hb : bl (gcdl zs) ≤ 131072 := gcdl_fits (fun z hz => (h z hz).bl (by omega))
  have hb2 : gcdl zs < 2 ^ (8 + k) := by
    have hg : ∀ (zs : List Int) (g : Nat), g < 2 ^ (8 + k) → (∀ z ∈ zs, SB k z) → zs.foldl (fun g z => Nat.gcd g z.natAbs) g < 2 ^ (8 + k) := by
      intro zs
      induction zs with
      | nil => intro g hg _; exact hg
      | cons z r ih =>
        intro g hg hz
        rw [List.foldl_cons]
        refine ih _ ?_ (fun y hy => hz y (by simp [hy]))
        rcases Nat.eq_zero_or_pos g with h0 | h0
        · rw [h0, Nat.gcd_zero_left]
          exact Nat.lt_of_lt_of_le (hz z (by simp)) (Nat.pow_le_pow_right (by decide) (by omega))
        · exact Nat.lt_of_le_of_lt (Nat.gcd_le_left _ h0) hg
    exact hg zs 0 (Nat.two_pow_pos _) h
  refine ⟨bys_few (e := 8 + k) (by omega) hb2, ?_⟩
  show bl (gcdl zs : Int).natAbs ≤ 131072
  rw [Int.natAbs_natCast]
  exact hb
theorem fmd_empty : Fmd ⟨#[]⟩ := ⟨fun x h => by simp at h, by decide⟩
end Go.Proofs.Ytpnginnjbdedbaa

/- law.WholeLists (printed by gen_wlists.py). -/
namespace Go.Proofs.Ytpnginnjbdedbaa
open Go.RowKit
open Wh
set_option linter.unusedSimpArgs false
set_option linter.unusedVariables false

def mark : ByteArray := ⟨#[109, 97, 114, 107]⟩
theorem Env.putAtL {w0 W : World} {l : List (Nat × TypeId × Array Value)} {g : Nat} {t : TypeId} {x y : Value} (h : Env w0 W l) (i : Nat) (hx : l[i]? = some (g, t, #[x, y])) (hg : w0.heap.size ≤ g) (hd : ∀ j q, j ≠ i → l[j]? = some q → q.1 ≠ g) (u v : Value) :
    Env w0 ((W.setCell ⟨g, 0, none⟩ u).setCell ⟨g, 1, none⟩ v) (l.set i (g, t, #[u, v])) := by
  refine ⟨(h.1.setCell (p := ⟨g, 0, none⟩) hg _).setCell (p := ⟨g, 1, none⟩) hg _, fun q hq => ?_⟩
  obtain ⟨j, hj⟩ := List.getElem?_of_mem hq
  rw [List.getElem?_set] at hj
  by_cases hij : i = j
  · rw [if_pos hij] at hj
    split at hj
    · injection hj with hj
      subst hj
      exact put_pair u v (h.at_ i hx)
    · cases hj
  · rw [if_neg hij] at hj
    exact far_pair u v (h.2 q (List.mem_of_getElem? hj)) (hd j q (fun e => hij e.symm) hj)
set_option maxRecDepth 100000 in
set_option maxHeartbeats 8000000 in
theorem lists_many {w : World} {A : Option Addr} {n c : Nat} {l : List (Bool × ByteArray)} (hr : ReadsWh w w.heap.size A l) (hn : n = l.length) (h60 : 60 < n) :
    Calls Try.prog 3 #[.slice A n c] w (fun e w' => e = .returned (.bool true) ∧ Below w.heap.size w w') := by
  have HW := Lib.hid (fun W : World => works_any (w := W))
  have HN := Lib.hid (fun (W : World) (n : Int) => num_any (w := W) (n := n))
  clear hr hn
  have h60i : (60 : Int) < (n : Int) := by omega
  go_enter Try.func3, Try.ntmps3
  go_wp2_with fail
  refine (HW.out _).mono ?_
  rintro e w1 ⟨rfl, hb1⟩
  go_wp2_with fail
  go_ret
  exact ⟨rfl, hb1⟩
set_option maxRecDepth 100000 in
set_option maxHeartbeats 8000000 in
theorem lists_long {w : World} {A : Option Addr} {n c : Nat} {l : List (Bool × ByteArray)} (hr : ReadsWh w w.heap.size A l) (hn : n = l.length) (h60 : n ≤ 60) (hl : l.any isLong = true) :
    Calls Try.prog 3 #[.slice A n c] w (fun e w' => e = .returned (.bool true) ∧ Below w.heap.size w w') := by
  have HW := Lib.hid (fun W : World => works_any (w := W))
  have HN := Lib.hid (fun (W : World) (n : Int) => num_any (w := W) (n := n))
  have HL := long_any (c := c) hr (Nat.le_refl _) hn (by omega)
  rw [hl] at HL
  have HL := Lib.hid HL
  clear hr hn
  have h60i : (n : Int) ≤ 60 := by omega
  go_enter Try.func3, Try.ntmps3
  go_wp2_with fail
  refine HL.out.mono ?_
  rintro e w1 ⟨rfl, hb1⟩
  go_wp2_with fail
  refine (HW.out _).mono ?_
  rintro e w2 ⟨rfl, hb2⟩
  go_wp2_with fail
  go_ret
  exact ⟨rfl, hb1.trans (hb2.mono hb1.size)⟩
set_option maxRecDepth 100000 in
set_option maxHeartbeats 8000000 in
theorem lists_bad {w : World} {A : Option Addr} {n c : Nat} {l : List (Bool × ByteArray)} (hr : ReadsWh w w.heap.size A l) (hn : n = l.length) (h60 : n ≤ 60) (hl : l.any isLong = false) (hbad : l.any isBad = true) :
    Calls Try.prog 3 #[.slice A n c] w (fun e w' => e = .returned (.bool true) ∧ Below w.heap.size w w') := by
  have HW := Lib.hid (fun W : World => works_any (w := W))
  have HN := Lib.hid (fun (W : World) (n : Int) => num_any (w := W) (n := n))
  have HL := long_any (c := c) hr (Nat.le_refl _) hn (by omega)
  rw [hl] at HL
  have HL := Lib.hid HL
  have HBad := Lib.hid (fun (W : World) (h : ReadsWh W w.heap.size A l) (hB : w.heap.size ≤ W.heap.size) => calm_eq (bad_any (c := c) h hB hn (by omega)) (show _ = Value.bool true by rw [hbad]))
  have Hr := Lib.hid hr
  have Hn := Lib.hid hn
  have h60i : (n : Int) ≤ 60 := by omega
  have HA := Lib.hid (fun W : World => arg_any (w := W))
  have Hm := Lib.hid (show ¬ AllMay l from fun h => by
    obtain ⟨a, ha, hb⟩ := List.any_eq_true.1 hbad
    exact (isBad_yes.1 hb) (h a ha))
  clear hr hn
  go_enter Try.func3, Try.ntmps3
  go_wp2_with fail
  refine HL.out.mono ?_
  rintro e w1 ⟨rfl, hb1⟩
  have hr1 := Lib.hid ((Reads.below Hr.out hb1).alloc hb1.size (.cells #[] 26))
  have Hbel1 := Lib.hid hb1
  clear hb1
  go_upto_region 4 with (first
    | (refine wpWh_append rfl (.tmp 19) (.tmp 20) rfl w1.heap.size _ [] l (OwnWh.empty w1) rfl rfl Hn.out hr1.out (by decide) (by have := Hn.out; omega) (by simp) ?_; intro A2 n2 c2 w2 ho2 hn2 hc2 hg2 hb2; have Ho2 := Lib.hid (And.intro ho2 (And.intro hn2 hb2)); clear ho2 hn2 hg2 hb2)
    | (refine wpWh_append rfl (.tmp 21) (.tmp 23) rfl w1.heap.size _ l [(false, mark)] (Ho2.out.1.alloc _) rfl rfl rfl (blk_one (w := w2) (false, mark)) (by have := Hn.out; omega) (by decide) (by have := Ho2.out.2.2 w1 ((Below.refl _ _).alloc (Nat.le_refl _) _); have := this.size; simp; omega) ?_; intro A3 n3 c3 w3 ho3 hn3 hc3 hg3 hb3; have Ho3 := Lib.hid (And.intro ho3 hb3); have hcn : (n : Int) ≤ (c3 : Int) := (by have h1 := Hn.out; have h2 : n3 = l.length + 1 := hn3; omega); have hn3' : n3 = n + 1 := (by have h1 := Hn.out; have h2 : n3 = l.length + 1 := hn3; omega); clear hg3 hb3 ho3; have hcn3 : (n : Int) + 1 ≤ (c3 : Int) := (by omega); subst hn3'; clear hn3))
  have hb30 : Below w1.heap.size w1 w3 := Ho3.out.2 w1 ((Ho2.out.2.2 w1 ((Below.refl _ _).alloc (Nat.le_refl _) _)).alloc (by have := (Ho2.out.2.2 w1 ((Below.refl _ _).alloc (Nat.le_refl _) _)).size; exact this) _)
  have Hbel3 : Hid (Below w.heap.size w w3) := Lib.hid (Hbel1.out.trans (hb30.mono Hbel1.out.size))
  have Hrm := Lib.hid Ho3.out.1.reads
  have Hrl := Lib.hid (Reads.below Hr.out Hbel3.out)
  clear hb30 Ho3 Ho2 hr1 Hbel1 Hr hc2
  have HBw := Lib.hid (fun (W : World) (hb : Below w3.heap.size w3 W) => HBad.out W (Reads.below Hrl.out (hb.mono Hbel3.out.size)) (Nat.le_trans Hbel3.out.size hb.size))
  have HcellL := Lib.hid (fun (W : World) (hb : Below w3.heap.size w3 W) => show ReadsWh W w.heap.size A l from Reads.below Hrl.out (hb.mono Hbel3.out.size))
  have HcellM := Lib.hid (fun (W : World) (hb : Below w3.heap.size w3 W) => show ReadsWh W w3.heap.size A3 (l ++ [(false, mark)]) from Reads.below Hrm.out hb)
  have E3 := Lib.hid (Env.nil w3)
  have HS := Lib.hid ((wsum_any (c := c3) (ReadsWh.take Hrm.out) (Nat.le_refl _) Hn.out (by omega)).mono fun _ _ h => (show T2no w3 2 _ _ from ⟨h.2.2.1 Hm.out, h.2.2.2⟩))
  have HG := Lib.hid (fun (W : World) (hb : Below w3.heap.size w3 W) => (wgcd_any (w := W) (c := c3) (ReadsWh.take (HcellM.out W hb)) hb.size Hn.out (by omega)).mono fun _ _ h => (show T2no W 2 _ _ from ⟨h.2.2.1 Hm.out, h.2.2.2⟩))
  go_wp2_with fail
  refine (HS.out).mono ?_
  rintro e w1 ⟨rfl, h1⟩
  have E2 := Lib.hid (E3.out.call h1)
  clear h1
  go_upto_region 5 with fail
  have E3 : Hid (Env w3 (w1.alloc (.cells #[.bool false, .string ⟨#[]⟩] 26)) [(w1.heap.size, 26, #[.bool false, .string ⟨#[]⟩])]) := Lib.hid (by have h := (Env.new E2.out 26 #[.bool false, .string ⟨#[]⟩]); (try simp only [World.size_alloc] at h); exact h)
  generalize (w1.alloc (.cells #[.bool false, .string ⟨#[]⟩] 26)) = W3 at E3 ⊢
  go_wp2_with fail
  refine (HG.out _ E3.out.1).mono ?_
  rintro e w4 ⟨rfl, h4⟩
  have E5 := Lib.hid (E3.out.call h4)
  clear h4
  go_upto_region 6 with fail
  have E6 : Hid (Env w3 (w4.alloc (.cells #[.bool false, .string ⟨#[]⟩] 26)) [(w4.heap.size, 26, #[.bool false, .string ⟨#[]⟩]), (w1.heap.size, 26, #[.bool false, .string ⟨#[]⟩])]) := Lib.hid (by have h := (Env.new E5.out 26 #[.bool false, .string ⟨#[]⟩]); (try simp only [World.size_alloc] at h); exact h)
  generalize (w4.alloc (.cells #[.bool false, .string ⟨#[]⟩] 26)) = W6 at E6 ⊢
  go_upto_region 7 with fail
  have E7 : Hid (Env w3 ((W6.alloc (.cells #[.bool false, .string ⟨#[]⟩] 26)).alloc (.cells #[.bool false, .string ⟨#[]⟩] 26)) [(W6.heap.size + 1, 26, #[.bool false, .string ⟨#[]⟩]), (W6.heap.size, 26, #[.bool false, .string ⟨#[]⟩]), (w4.heap.size, 26, #[.bool false, .string ⟨#[]⟩]), (w1.heap.size, 26, #[.bool false, .string ⟨#[]⟩])]) := Lib.hid (by have h := (Env.new (Env.new E6.out 26 #[.bool false, .string ⟨#[]⟩]) 26 #[.bool false, .string ⟨#[]⟩]); (try simp only [World.size_alloc] at h); exact h)
  generalize ((W6.alloc (.cells #[.bool false, .string ⟨#[]⟩] 26)).alloc (.cells #[.bool false, .string ⟨#[]⟩] 26)) = W7 at E7 ⊢
  go_wp2_with fail
  go_loopg [10] n (fun k iv wr => ∃ i : Nat, iv = .int .i64 (i : Int) ∧ k = n - i ∧ i ≤ n ∧ Hid (Env w3 wr [(W6.heap.size + 1, 26, #[.bool false, .string ⟨#[]⟩]), (W6.heap.size, 26, #[.bool false, .string ⟨#[]⟩]), (w4.heap.size, 26, #[.bool false, .string ⟨#[]⟩]), (w1.heap.size, 26, #[.bool false, .string ⟨#[]⟩])]))
  case atStart => exact ⟨0, rfl, rfl, by omega, E7⟩
  case round =>
    obtain ⟨i, rfl, hk, hi, HE⟩ := hrel
    have Hk := Lib.hid hk
    clear hk
    by_cases hin : i < n
    · have hil : i < l.length := by rw [← Hn.out]; exact hin
      have hil2 : i < (l ++ [(false, mark)]).length := by rw [List.length_append]; exact Nat.lt_add_right _ hil
      obtain ⟨ad, rfl, hb1, c0, c1⟩ := (HcellL.out wr HE.out.1).at_ hil
      obtain ⟨bd, rfl, hb2, d0, d1⟩ := (HcellM.out wr HE.out.1).at_ hil2
      rw [List.getElem_append_left hil] at d0 d1
      have hii : (i : Int) < (n : Int) := by omega
      generalize l[i] = a at *
      obtain ⟨nk, sk⟩ := a
      dsimp only at *
      go_wp2_with fail
      go_quiet (fail)
      have HE2 := Lib.hid (Env.drewN HE.out nq)
      clear c0 c1 d0 d1
      go_wp2_with fail
      refine (HBw.out _ HE2.out.1).mono ?_
      rintro e w8 ⟨rfl, hb8⟩
      have HE3 := Lib.hid (HE2.out.call hb8)
      clear hb8
      go_wp2_with fail
      go_roundg (n - (i + 1))
      case measure => have := Hk.out; omega
      case rel => exact ⟨i + 1, rfl, rfl, by omega, HE3⟩
    · have hii : (n : Int) ≤ (i : Int) := by omega
      obtain ⟨bd, rfl, hb2, d0, d1⟩ := ReadsWh.last (HcellM.out wr HE.out.1)
      rw [← Hn.out] at d0 d1
      dsimp only [mark] at d0 d1
      go_wp2_with fail
      clear d0 d1
      refine (HBw.out _ HE.out.1).mono ?_
      rintro e w8 ⟨rfl, hb8⟩
      have HE3 := Lib.hid (HE.out.call hb8)
      clear hb8
      go_upto_region 18 with fail
      have q0_0 : w8.cell? ⟨w1.heap.size, 0, none⟩ = some (.bool false) := (Env.at_ HE3.out 3 rfl).cell 0
      have q0_1 : w8.cell? ⟨w1.heap.size, 1, none⟩ = some (.string ⟨#[]⟩) := (Env.at_ HE3.out 3 rfl).cell 1
      go_wp2_with fail
      refine (HA.out _).mono ?_
      rintro e w8 ⟨rfl, h8⟩
      have E9 := Lib.hid (HE3.out.call h8)
      clear q0_0 q0_1 h8
      have q4_0 : w8.cell? ⟨w4.heap.size, 0, none⟩ = some (.bool false) := (Env.at_ E9.out 2 rfl).cell 0
      have q4_1 : w8.cell? ⟨w4.heap.size, 1, none⟩ = some (.string ⟨#[]⟩) := (Env.at_ E9.out 2 rfl).cell 1
      go_wp2_with fail
      refine (HA.out _).mono ?_
      rintro e w10 ⟨rfl, h10⟩
      have E11 := Lib.hid (E9.out.call h10)
      clear q4_0 q4_1 h10
      go_wp2_with fail
      refine (HW.out _).mono ?_
      rintro e w12 ⟨rfl, h12⟩
      have E13 := Lib.hid (E11.out.call h12)
      clear h12
      go_wp2_with fail
      go_ret
      exact ⟨rfl, Hbel3.out.trans ((E13.out.1).mono Hbel3.out.size)⟩
set_option maxRecDepth 100000 in
set_option maxHeartbeats 8000000 in
theorem lists_good {w : World} {A : Option Addr} {n c : Nat} {l : List (Bool × ByteArray)} (hr : ReadsWh w w.heap.size A l) (hn : n = l.length) (h60 : n ≤ 60) (hl : l.any isLong = false) (hbad : l.any isBad = false) :
    Calls Try.prog 3 #[.slice A n c] w (fun e w' => e = .returned (.bool true) ∧ Below w.heap.size w w') := by
  have HW := Lib.hid (fun W : World => works_any (w := W))
  have HN := Lib.hid (fun (W : World) (n : Int) => num_any (w := W) (n := n))
  have HL := long_any (c := c) hr (Nat.le_refl _) hn (by omega)
  rw [hl] at HL
  have HL := Lib.hid HL
  have HBad := Lib.hid (fun (W : World) (h : ReadsWh W w.heap.size A l) (hB : w.heap.size ≤ W.heap.size) => calm_eq (bad_any (c := c) h hB hn (by omega)) (show _ = Value.bool false by rw [hbad]))
  have Hr := Lib.hid hr
  have Hn := Lib.hid hn
  have h60i : (n : Int) ≤ 60 := by omega
  have hall : AllMay l := fun a ha => by
    have h1 : isBad a = false := by
      cases h2 : isBad a
      · rfl
      · rw [List.any_eq_true.2 ⟨a, ha, h2⟩] at hbad; exact absurd hbad (by decide)
    exact isBad_no.1 h1
  obtain ⟨K, hK⟩ : ∃ K, K = 3200 := ⟨_, rfl⟩
  have hsb : ∀ z ∈ l.map num, SB K z := fun z hz => by
    obtain ⟨a, ha, rfl⟩ := List.mem_map.1 hz
    have h1 : isLong a = false := by
      cases h2 : isLong a
      · rfl
      · rw [List.any_eq_true.2 ⟨a, ha, h2⟩] at hl; exact absurd hl (by decide)
    exact SB.mono (may_sb (n := a.1) (short_of h1 (hall a ha))) (by omega)
  obtain ⟨zs, hzs⟩ : ∃ zs, zs = l.map num := ⟨_, rfl⟩
  rw [← hzs] at hsb
  have hzl : zs.length = l.length := by rw [hzs, List.length_map]
  have Hall := Lib.hid hall
  have Hsb := Lib.hid (And.intro hK (And.intro hsb (And.intro hzs hzl)))
  have f1 := (sum_small hK hsb (by omega)).2
  have f2 := (gcd_small hK hsb).2
  obtain ⟨ss, bs, es, ns, ms⟩ := enc_form f1
  obtain ⟨sg_, bg, eg, ng, mg⟩ := enc_form f2
  have HY1 := Lib.hid (fun W : World => is_yes (w := W) f1 es)
  have HY2 := Lib.hid (fun W : World => is_yes (w := W) f2 eg)
  have Hf := Lib.hid (And.intro f1 (And.intro es (And.intro f2 eg)))
  clear hall hK hsb f1 f2 es ns ms eg ng mg hzs hzl
  clear hr hn
  go_enter Try.func3, Try.ntmps3
  go_wp2_with fail
  refine HL.out.mono ?_
  rintro e w1 ⟨rfl, hb1⟩
  have hr1 := Lib.hid ((Reads.below Hr.out hb1).alloc hb1.size (.cells #[] 26))
  have Hbel1 := Lib.hid hb1
  clear hb1
  go_upto_region 4 with (first
    | (refine wpWh_append rfl (.tmp 19) (.tmp 20) rfl w1.heap.size _ [] l (OwnWh.empty w1) rfl rfl Hn.out hr1.out (by decide) (by have := Hn.out; omega) (by simp) ?_; intro A2 n2 c2 w2 ho2 hn2 hc2 hg2 hb2; have Ho2 := Lib.hid (And.intro ho2 (And.intro hn2 hb2)); clear ho2 hn2 hg2 hb2)
    | (refine wpWh_append rfl (.tmp 21) (.tmp 23) rfl w1.heap.size _ l [(false, mark)] (Ho2.out.1.alloc _) rfl rfl rfl (blk_one (w := w2) (false, mark)) (by have := Hn.out; omega) (by decide) (by have := Ho2.out.2.2 w1 ((Below.refl _ _).alloc (Nat.le_refl _) _); have := this.size; simp; omega) ?_; intro A3 n3 c3 w3 ho3 hn3 hc3 hg3 hb3; have Ho3 := Lib.hid (And.intro ho3 hb3); have hcn : (n : Int) ≤ (c3 : Int) := (by have h1 := Hn.out; have h2 : n3 = l.length + 1 := hn3; omega); have hn3' : n3 = n + 1 := (by have h1 := Hn.out; have h2 : n3 = l.length + 1 := hn3; omega); clear hg3 hb3 ho3; have hcn3 : (n : Int) + 1 ≤ (c3 : Int) := (by omega); subst hn3'; clear hn3))
  have hb30 : Below w1.heap.size w1 w3 := Ho3.out.2 w1 ((Ho2.out.2.2 w1 ((Below.refl _ _).alloc (Nat.le_refl _) _)).alloc (by have := (Ho2.out.2.2 w1 ((Below.refl _ _).alloc (Nat.le_refl _) _)).size; exact this) _)
  have Hbel3 : Hid (Below w.heap.size w w3) := Lib.hid (Hbel1.out.trans (hb30.mono Hbel1.out.size))
  have Hrm := Lib.hid Ho3.out.1.reads
  have Hrl := Lib.hid (Reads.below Hr.out Hbel3.out)
  clear hb30 Ho3 Ho2 hr1 Hbel1 Hr hc2
  have HBw := Lib.hid (fun (W : World) (hb : Below w3.heap.size w3 W) => HBad.out W (Reads.below Hrl.out (hb.mono Hbel3.out.size)) (Nat.le_trans Hbel3.out.size hb.size))
  have HcellL := Lib.hid (fun (W : World) (hb : Below w3.heap.size w3 W) => show ReadsWh W w.heap.size A l from Reads.below Hrl.out (hb.mono Hbel3.out.size))
  have HcellM := Lib.hid (fun (W : World) (hb : Below w3.heap.size w3 W) => show ReadsWh W w3.heap.size A3 (l ++ [(false, mark)]) from Reads.below Hrm.out hb)
  have E3 := Lib.hid (Env.nil w3)
  have HS := Lib.hid ((wsum_any (c := c3) (ReadsWh.take Hrm.out) (Nat.le_refl _) Hn.out (by omega)).mono fun e w' h => (show T2 w3 ss bs e w' from ⟨by rw [h.1 Hall.out (by rw [← Hsb.out.2.2.1]; exact Hf.out.1), ← Hsb.out.2.2.1, Hf.out.2.1], h.2.2.2⟩))
  have HG := Lib.hid (fun (W : World) (hb : Below w3.heap.size w3 W) => (wgcd_any (w := W) (c := c3) (ReadsWh.take (HcellM.out W hb)) hb.size Hn.out (by omega)).mono fun e w' h => (show T2 W sg_ bg e w' from ⟨by rw [h.1 Hall.out (by rw [← Hsb.out.2.2.1]; exact Hf.out.2.2.1), ← Hsb.out.2.2.1, Hf.out.2.2.2], h.2.2.2⟩))
  go_wp2_with fail
  refine (HS.out).mono ?_
  rintro e w1 ⟨rfl, h1⟩
  have E2 := Lib.hid (E3.out.call h1)
  clear h1
  go_upto_region 5 with fail
  have E3 : Hid (Env w3 (w1.alloc (.cells #[.bool ss, .string bs] 26)) [(w1.heap.size, 26, #[.bool ss, .string bs])]) := Lib.hid (by have h := (Env.new E2.out 26 #[.bool ss, .string bs]); (try simp only [World.size_alloc] at h); exact h)
  generalize (w1.alloc (.cells #[.bool ss, .string bs] 26)) = W3 at E3 ⊢
  go_wp2_with fail
  refine (HG.out _ E3.out.1).mono ?_
  rintro e w4 ⟨rfl, h4⟩
  have E5 := Lib.hid (E3.out.call h4)
  clear h4
  go_upto_region 6 with fail
  have E6 : Hid (Env w3 (w4.alloc (.cells #[.bool sg_, .string bg] 26)) [(w4.heap.size, 26, #[.bool sg_, .string bg]), (w1.heap.size, 26, #[.bool ss, .string bs])]) := Lib.hid (by have h := (Env.new E5.out 26 #[.bool sg_, .string bg]); (try simp only [World.size_alloc] at h); exact h)
  generalize (w4.alloc (.cells #[.bool sg_, .string bg] 26)) = W6 at E6 ⊢
  have Hd := Lib.hid (show w1.heap.size < W6.heap.size ∧ w4.heap.size < W6.heap.size ∧ w3.heap.size ≤ W6.heap.size from ⟨(Env.at_ E6.out 1 rfl).lt, (Env.at_ E6.out 0 rfl).lt, E6.out.1.size⟩)
  go_upto_region 7 with fail
  have E7 : Hid (Env w3 ((W6.alloc (.cells #[.bool false, .string ⟨#[]⟩] 26)).alloc (.cells #[.bool false, .string ⟨#[]⟩] 26)) [(W6.heap.size + 1, 26, #[.bool false, .string ⟨#[]⟩]), (W6.heap.size, 26, #[.bool false, .string ⟨#[]⟩]), (w4.heap.size, 26, #[.bool sg_, .string bg]), (w1.heap.size, 26, #[.bool ss, .string bs])]) := Lib.hid (by have h := (Env.new (Env.new E6.out 26 #[.bool false, .string ⟨#[]⟩]) 26 #[.bool false, .string ⟨#[]⟩]); (try simp only [World.size_alloc] at h); exact h)
  generalize ((W6.alloc (.cells #[.bool false, .string ⟨#[]⟩] 26)).alloc (.cells #[.bool false, .string ⟨#[]⟩] 26)) = W7 at E7 ⊢
  obtain ⟨g8, hg8⟩ : ∃ g, g = W6.heap.size := ⟨_, rfl⟩
  rw [← hg8] at E7 Hd ⊢
  clear hg8
  obtain ⟨g6, hg6⟩ : ∃ g, g = w4.heap.size := ⟨_, rfl⟩
  rw [← hg6] at E7 Hd ⊢
  clear hg6
  obtain ⟨g4, hg4⟩ : ∃ g, g = w1.heap.size := ⟨_, rfl⟩
  rw [← hg4] at E7 Hd ⊢
  clear hg4
  go_wp2_with fail
  go_loopg [10] n (fun k iv wr => ∃ (i : Nat) (s8 : Bool) (b8 : ByteArray) (s9 : Bool) (b9 : ByteArray), iv = .int .i64 (i : Int) ∧ k = n - i ∧ i ≤ n ∧ Hid (Env w3 wr [(g8 + 1, 26, #[.bool s9, .string b9]), (g8, 26, #[.bool s8, .string b8]), (g6, 26, #[.bool sg_, .string bg]), (g4, 26, #[.bool ss, .string bs])]) ∧ Hid (enc (zs.take i).sum = .agg #[.bool s8, .string b8] ∧ num (s8, b8) = (zs.take i).sum ∧ Fmd b8) ∧ Hid (enc (gcdl (zs.take i) : Int) = .agg #[.bool s9, .string b9] ∧ num (s9, b9) = (gcdl (zs.take i) : Int) ∧ Fmd b9))
  case atStart => exact ⟨0, false, ⟨#[]⟩, false, ⟨#[]⟩, rfl, rfl, by omega, E7, Lib.hid ⟨enc_zero, num_zero, fmd_empty⟩, Lib.hid ⟨enc_zero, num_zero, fmd_empty⟩⟩
  case round =>
    obtain ⟨i, s8, b8, s9, b9, rfl, hk, hi, HE, H8, H9⟩ := hrel
    have Hk := Lib.hid hk
    clear hk
    by_cases hin : i < n
    · have hil : i < l.length := by rw [← Hn.out]; exact hin
      have hil2 : i < (l ++ [(false, mark)]).length := by rw [List.length_append]; exact Nat.lt_add_right _ hil
      obtain ⟨ad, rfl, hb1, c0, c1⟩ := (HcellL.out wr HE.out.1).at_ hil
      obtain ⟨bd, rfl, hb2, d0, d1⟩ := (HcellM.out wr HE.out.1).at_ hil2
      rw [List.getElem_append_left hil] at d0 d1
      have hii : (i : Int) < (n : Int) := by omega
      have hiz : i < zs.length := by rw [Hsb.out.2.2.2]; exact hil
      have hzi : zs[i] = num l[i] := by simp only [Hsb.out.2.2.1, List.getElem_map]
      have hs1 := sum_take hiz
      have hg1 := gcdl_take hiz
      rw [hzi] at hs1 hg1
      have Hst := Lib.hid (And.intro hs1 (And.intro hg1 (Fmd.of_may (Hall.out l[i] (List.getElem_mem hil)))))
      have Hcl := Lib.hid (fun (W : World) (hb : Below w3.heap.size w3 W) => show W.cell? (ad.add (i * 2)) = some (.bool l[i].1) ∧ W.cell? ⟨(ad.add (i * 2)).block, (ad.add (i * 2)).off + 1, none⟩ = some (.string l[i].2) from by
        obtain ⟨ad', e', _, x0, x1⟩ := (HcellL.out W hb).at_ hil
        injection e' with e'
        subst e'
        exact ⟨x0, x1⟩)
      clear hiz hzi hs1 hg1
      generalize l[i] = a at *
      obtain ⟨nk, sk⟩ := a
      dsimp only at *
      go_wp2_with fail
      go_quiet (fail)
      have HE2 := Lib.hid (Env.drewN HE.out nq)
      clear c0 c1 d0 d1
      go_wp2_with fail
      refine (HBw.out _ HE2.out.1).mono ?_
      rintro e w8 ⟨rfl, hb8⟩
      have HE3 := Lib.hid (HE2.out.call hb8)
      clear hb8 HE2
      have Hz8 := Lib.hid (show num (s8, b8) + num (nk, sk) = (zs.take (i + 1)).sum by rw [H8.out.2.1, Hst.out.1])
      have hbv : bval b9.data.toList = gcdl (zs.take i) := by
        have h1 : (num (s9, b9)).natAbs = bval b9.data.toList := sgn_abs _ _
        rw [H9.out.2.1, Int.natAbs_natCast] at h1
        exact h1.symm
      have Hz9 := Lib.hid (show ((Nat.gcd (bval b9.data.toList) (bval sk.data.toList) : Nat) : Int) = (gcdl (zs.take (i + 1)) : Int) by
        rw [hbv, Hst.out.2.1, show (num (nk, sk)).natAbs = bval sk.data.toList from sgn_abs _ _])
      have hsb' : ∀ z ∈ zs.take (i + 1), SB K z := fun z hz => Hsb.out.2.1 z (List.mem_of_mem_take hz)
      have q1 := (sum_small Hsb.out.1 hsb' (by rw [List.length_take]; omega)).1
      have q2 := (gcd_small Hsb.out.1 hsb').1
      obtain ⟨s10, b10, e10, n10, f10⟩ := enc_fl (z := (zs.take (i + 1)).sum) (by omega)
      obtain ⟨s11, b11, e11, n11, f11⟩ := enc_fl (z := (gcdl (zs.take (i + 1)) : Int)) (by rw [Int.natAbs_natCast]; omega)
      have HP := Lib.hid (fun W : World => calm_eq (rplus_any (w := W) (na := s8) (nb := nk) H8.out.2.2 Hst.out.2.2) (show enc (num (s8, b8) + num (nk, sk)) = .agg #[.bool s10, .string b10] by rw [Hz8.out]; exact e10))
      have HQ := Lib.hid (fun W : World => calm_eq (rgcd_any (w := W) (na := s9) (nb := nk) H9.out.2.2 Hst.out.2.2) (show enc ((Nat.gcd (bval b9.data.toList) (bval sk.data.toList) : Nat) : Int) = .agg #[.bool s11, .string b11] by rw [Hz9.out]; exact e11))
      have H10 := Lib.hid (And.intro e10 (And.intro n10 f10))
      have H11 := Lib.hid (And.intro e11 (And.intro n11 f11))
      clear hbv hsb' q1 q2 e10 n10 f10 e11 n11 f11 Hz8 Hz9
      go_upto_region 13 with fail
      refine wp_region_noPanic ?_
      refine wp_region_HK (fun w' => Env w3 w' [(g8 + 1, 26, #[.bool s9, .string b9]), (g8, 26, #[.bool s8, .string b8]), (g6, 26, #[.bool sg_, .string bg]), (g4, 26, #[.bool ss, .string bs])]) 6 (by kernel_rfl) (Env.drew HE3.out) (fun hHeld => ?_)
      refine wpHK_take (i := 0) (oi := Oper.mk (some 56) _ _ _ _ _) (v := ?_) rfl (by kernel_rfl) (by kernel_rfl) (by kernel_rfl) (by kernel_rfl) (fun _ _ _ h => h) (Or.inl ⟨by rfl, ?_⟩) (by assumption) ?_
      rotate_left
      · (intro w' hSw; (try dsimp only at hSw); have a0 : w'.cell? ⟨g8, 0, none⟩ = some (.bool s8) := (Env.at_ hSw 1 rfl).cell 0; have a1 : w'.cell? ⟨g8, 1, none⟩ = some (.string b8) := (Env.at_ hSw 1 rfl).cell 1; go_simp; try with_reducible rfl)
      try simp only [Act.put, List.setIfInBounds_toArray, List.set_cons_zero, List.set_cons_succ]
      refine wpHK_pure (i := 1) (oi := Oper.mk (some 57) _ _ _ _ _) (v := ?_) rfl (by kernel_rfl) (by kernel_rfl) (by kernel_rfl) (fun _ _ _ h => h) (Or.inl ⟨by rfl, ?_⟩) ?_
      rotate_left
      · (intro w' _; go_simp; try with_reducible rfl)
      try simp only [Act.put, List.setIfInBounds_toArray, List.set_cons_zero, List.set_cons_succ]
      refine wpHK_pure (i := 2) (oi := Oper.mk (some 58) _ _ _ _ _) (v := ?_) rfl (by kernel_rfl) (by kernel_rfl) (by kernel_rfl) (fun _ _ _ h => h) (Or.inl ⟨by rfl, ?_⟩) ?_
      rotate_left
      · (intro w' _; go_simp; try with_reducible rfl)
      try simp only [Act.put, List.setIfInBounds_toArray, List.set_cons_zero, List.set_cons_succ]
      refine wpHK_pure (i := 3) (oi := Oper.mk (some 59) _ _ _ _ _) (v := ?_) rfl (by kernel_rfl) (by kernel_rfl) (by kernel_rfl) (fun _ _ _ h => h) (Or.inl ⟨by rfl, ?_⟩) ?_
      rotate_left
      · (intro w' _; go_simp; try with_reducible rfl)
      try simp only [Act.put, List.setIfInBounds_toArray, List.set_cons_zero, List.set_cons_succ]
      refine wpHK_take (i := 4) (oi := Oper.mk (some 60) _ _ _ _ _) (v := ?_) rfl (by kernel_rfl) (by kernel_rfl) (by kernel_rfl) (by kernel_rfl) (fun _ _ _ h => h) (Or.inl ⟨by rfl, ?_⟩) (by assumption) ?_
      rotate_left
      · (intro w' hSw; (try dsimp only at hSw); obtain ⟨b0, b1⟩ := Hcl.out w' hSw.1; go_simp; try with_reducible rfl)
      try simp only [Act.put, List.setIfInBounds_toArray, List.set_cons_zero, List.set_cons_succ]
      refine wpHK_one (j := 5) (o := Oper.mk (some 61) _ _ _ _ _) rfl (by kernel_rfl) (fun K hK => ?_)
      go_simp
      refine (HP.out _).mono ?_
      rintro e w10 ⟨rfl, hb⟩
      have HE4 := Lib.hid (Env.call hHeld hb)
      clear hb
      refine hK.out _ _ HE4.out (fun _ => ?_)
      clear hK K hHeld
      try simp only [Act.put, List.setIfInBounds_toArray, List.set_cons_zero, List.set_cons_succ]
      refine wpHK_tail (j := 6) (o := Oper.mk (none) _ _ _ _ _) rfl (by kernel_rfl) (by decide) (fun K hK => ?_)
      have n4 := Env.at_ HE4.out 1 rfl
      have y0 : w10.cell? ⟨g8, 0, none⟩ = some (.bool s8) := n4.cell 0
      have y1 : w10.cell? ⟨g8, 1, none⟩ = some (.string b8) := n4.cell 1
      have y2 := n4.frozen 0
      have y3 := n4.frozen 1
      go_simp
      refine hK.out _ _ ?_
      clear hK K
      try simp only [Act.put, List.setIfInBounds_toArray, List.set_cons_zero, List.set_cons_succ]
      refine wpHK_done (by kernel_rfl) ?_ _
      refine NoPanic.normal ?_
      clear n4 y0 y1 y2 y3
      have h9 := Env.putAtL HE4.out 1 rfl (show w3.heap.size ≤ g8 by have := Hd.out; omega) (fun j q hj hq => by
        have hl := Hd.out
        match j, hj, hq with
        | 0, _, hq => injection hq with hq; subst hq; show g8 + 1 ≠ g8; omega
        | 2, _, hq => injection hq with hq; subst hq; show g6 ≠ g8; omega
        | 3, _, hq => injection hq with hq; subst hq; show g4 ≠ g8; omega
        | j + 4, _, hq => simp at hq) (.bool s10) (.string b10)
      simp only [List.set_cons_zero, List.set_cons_succ] at h9
      have HE4x := Lib.hid h9
      clear h9 HE4
      go_upto_region 14 with fail
      refine wp_region_noPanic ?_
      refine wp_region_HK (fun w' => Env w3 w' [(g8 + 1, 26, #[.bool s9, .string b9]), (g8, 26, #[.bool s10, .string b10]), (g6, 26, #[.bool sg_, .string bg]), (g4, 26, #[.bool ss, .string bs])]) 6 (by kernel_rfl) (Env.drew HE4x.out) (fun hHeld => ?_)
      refine wpHK_take (i := 0) (oi := Oper.mk (some 62) _ _ _ _ _) (v := ?_) rfl (by kernel_rfl) (by kernel_rfl) (by kernel_rfl) (by kernel_rfl) (fun _ _ _ h => h) (Or.inl ⟨by rfl, ?_⟩) (by assumption) ?_
      rotate_left
      · (intro w' hSw; (try dsimp only at hSw); have a0 : w'.cell? ⟨g8 + 1, 0, none⟩ = some (.bool s9) := (Env.at_ hSw 0 rfl).cell 0; have a1 : w'.cell? ⟨g8 + 1, 1, none⟩ = some (.string b9) := (Env.at_ hSw 0 rfl).cell 1; go_simp; try with_reducible rfl)
      try simp only [Act.put, List.setIfInBounds_toArray, List.set_cons_zero, List.set_cons_succ]
      refine wpHK_pure (i := 1) (oi := Oper.mk (some 63) _ _ _ _ _) (v := ?_) rfl (by kernel_rfl) (by kernel_rfl) (by kernel_rfl) (fun _ _ _ h => h) (Or.inl ⟨by rfl, ?_⟩) ?_
      rotate_left
      · (intro w' _; go_simp; try with_reducible rfl)
      try simp only [Act.put, List.setIfInBounds_toArray, List.set_cons_zero, List.set_cons_succ]
      refine wpHK_pure (i := 2) (oi := Oper.mk (some 64) _ _ _ _ _) (v := ?_) rfl (by kernel_rfl) (by kernel_rfl) (by kernel_rfl) (fun _ _ _ h => h) (Or.inl ⟨by rfl, ?_⟩) ?_
      rotate_left
      · (intro w' _; go_simp; try with_reducible rfl)
      try simp only [Act.put, List.setIfInBounds_toArray, List.set_cons_zero, List.set_cons_succ]
      refine wpHK_pure (i := 3) (oi := Oper.mk (some 65) _ _ _ _ _) (v := ?_) rfl (by kernel_rfl) (by kernel_rfl) (by kernel_rfl) (fun _ _ _ h => h) (Or.inl ⟨by rfl, ?_⟩) ?_
      rotate_left
      · (intro w' _; go_simp; try with_reducible rfl)
      try simp only [Act.put, List.setIfInBounds_toArray, List.set_cons_zero, List.set_cons_succ]
      refine wpHK_take (i := 4) (oi := Oper.mk (some 66) _ _ _ _ _) (v := ?_) rfl (by kernel_rfl) (by kernel_rfl) (by kernel_rfl) (by kernel_rfl) (fun _ _ _ h => h) (Or.inl ⟨by rfl, ?_⟩) (by assumption) ?_
      rotate_left
      · (intro w' hSw; (try dsimp only at hSw); obtain ⟨b0, b1⟩ := Hcl.out w' hSw.1; go_simp; try with_reducible rfl)
      try simp only [Act.put, List.setIfInBounds_toArray, List.set_cons_zero, List.set_cons_succ]
      refine wpHK_one (j := 5) (o := Oper.mk (some 67) _ _ _ _ _) rfl (by kernel_rfl) (fun K hK => ?_)
      go_simp
      refine (HQ.out _).mono ?_
      rintro e w11 ⟨rfl, hb⟩
      have HE5 := Lib.hid (Env.call hHeld hb)
      clear hb
      refine hK.out _ _ HE5.out (fun _ => ?_)
      clear hK K hHeld
      try simp only [Act.put, List.setIfInBounds_toArray, List.set_cons_zero, List.set_cons_succ]
      refine wpHK_tail (j := 6) (o := Oper.mk (none) _ _ _ _ _) rfl (by kernel_rfl) (by decide) (fun K hK => ?_)
      have n4 := Env.at_ HE5.out 0 rfl
      have y0 : w11.cell? ⟨g8 + 1, 0, none⟩ = some (.bool s9) := n4.cell 0
      have y1 : w11.cell? ⟨g8 + 1, 1, none⟩ = some (.string b9) := n4.cell 1
      have y2 := n4.frozen 0
      have y3 := n4.frozen 1
      go_simp
      refine hK.out _ _ ?_
      clear hK K
      try simp only [Act.put, List.setIfInBounds_toArray, List.set_cons_zero, List.set_cons_succ]
      refine wpHK_done (by kernel_rfl) ?_ _
      refine NoPanic.normal ?_
      clear n4 y0 y1 y2 y3
      have h9 := Env.putAtL HE5.out 0 rfl (show w3.heap.size ≤ g8 + 1 by have := Hd.out; omega) (fun j q hj hq => by
        have hl := Hd.out
        match j, hj, hq with
        | 1, _, hq => injection hq with hq; subst hq; show g8 ≠ g8 + 1; omega
        | 2, _, hq => injection hq with hq; subst hq; show g6 ≠ g8 + 1; omega
        | 3, _, hq => injection hq with hq; subst hq; show g4 ≠ g8 + 1; omega
        | j + 4, _, hq => simp at hq) (.bool s11) (.string b11)
      simp only [List.set_cons_zero, List.set_cons_succ] at h9
      have HE5x := Lib.hid h9
      clear h9 HE5
      go_wp2_with fail
      go_roundg (n - (i + 1))
      case measure => have := Hk.out; omega
      case rel => exact ⟨i + 1, s10, b10, s11, b11, rfl, rfl, by omega, HE5x, H10, H11⟩
    · have hii : (n : Int) ≤ (i : Int) := by omega
      have hend : zs.take i = zs := by rw [List.take_of_length_le]; rw [Hsb.out.2.2.2, ← Hn.out]; omega
      have h8 := H8.out.1
      have h9 := H9.out.1
      rw [hend, Hf.out.2.1] at h8
      rw [hend, Hf.out.2.2.2] at h9
      injection h8 with h8
      injection h9 with h9
      obtain ⟨rfl, rfl⟩ : ss = s8 ∧ bs = b8 := by simpa using h8
      obtain ⟨rfl, rfl⟩ : sg_ = s9 ∧ bg = b9 := by simpa using h9
      clear h8 h9 hend H8 H9
      obtain ⟨bd, rfl, hb2, d0, d1⟩ := ReadsWh.last (HcellM.out wr HE.out.1)
      rw [← Hn.out] at d0 d1
      dsimp only [mark] at d0 d1
      go_wp2_with fail
      clear d0 d1
      refine (HBw.out _ HE.out.1).mono ?_
      rintro e w8 ⟨rfl, hb8⟩
      have HE3 := Lib.hid (HE.out.call hb8)
      clear hb8
      go_upto_region 19 with fail
      have q0_0 : w8.cell? ⟨g4, 0, none⟩ = some (.bool ss) := (Env.at_ HE3.out 3 rfl).cell 0
      have q0_1 : w8.cell? ⟨g4, 1, none⟩ = some (.string bs) := (Env.at_ HE3.out 3 rfl).cell 1
      have q2_0 : w8.cell? ⟨g8, 0, none⟩ = some (.bool ss) := (Env.at_ HE3.out 1 rfl).cell 0
      have q2_1 : w8.cell? ⟨g8, 1, none⟩ = some (.string bs) := (Env.at_ HE3.out 1 rfl).cell 1
      go_wp2_with fail
      refine (HY1.out _).mono ?_
      rintro e w8 ⟨rfl, h8⟩
      have E9 := Lib.hid (HE3.out.call h8)
      clear q0_0 q0_1 q2_0 q2_1 h8
      have q5_0 : w8.cell? ⟨g6, 0, none⟩ = some (.bool sg_) := (Env.at_ E9.out 2 rfl).cell 0
      have q5_1 : w8.cell? ⟨g6, 1, none⟩ = some (.string bg) := (Env.at_ E9.out 2 rfl).cell 1
      have q7_0 : w8.cell? ⟨g8 + 1, 0, none⟩ = some (.bool sg_) := (Env.at_ E9.out 0 rfl).cell 0
      have q7_1 : w8.cell? ⟨g8 + 1, 1, none⟩ = some (.string bg) := (Env.at_ E9.out 0 rfl).cell 1
      go_wp2_with fail
      refine (HY2.out _).mono ?_
      rintro e w10 ⟨rfl, h10⟩
      have E11 := Lib.hid (E9.out.call h10)
      clear q5_0 q5_1 q7_0 q7_1 h10
      go_wp2_with fail
      refine (HW.out _).mono ?_
      rintro e w12 ⟨rfl, h12⟩
      have E13 := Lib.hid (E11.out.call h12)
      clear h12
      go_wp2_with fail
      go_ret
      exact ⟨rfl, Hbel3.out.trans ((E13.out.1).mono Hbel3.out.size)⟩
theorem lists_any {w : World} {A : Option Addr} {n c : Nat} {l : List (Bool × ByteArray)} (hr : ReadsWh w w.heap.size A l) (hn : n = l.length) :
    Calls Try.prog 3 #[.slice A n c] w (fun e w' => e = .returned (.bool true) ∧ Below w.heap.size w w') := by
  rcases Nat.lt_or_ge 60 n with h | h
  · exact lists_many hr hn h
  · by_cases hl : l.any isLong = true
    · exact lists_long hr hn h hl
    · have hl := Bool.not_eq_true _ ▸ hl
      by_cases hb : l.any isBad = true
      · exact lists_bad hr hn h hl hb
      · exact lists_good hr hn h hl (Bool.not_eq_true _ ▸ hb)
end Go.Proofs.Ytpnginnjbdedbaa

/- The frame of a law's row: what came in reads as it did. -/
namespace Go.Proofs.Ytpnginnjbdedbaa
open Go.ChangeShapes Go.WideShapes Go.ChangeAt Go.RowKit

theorem own : ownKnob Try.prog.godebug = none := by kernel_rfl

theorem trodAll_keep {H : Type} {enc : TypeId × Value → H} {P : Program} (hl : laidOutB P = true) {W W' : World} (hb : Below W.heap.size W W') {sp : Nat → Bool} :
    ∀ (ts : List TypeId) (vs : List Value) (ds : List (DataW H)) (ps : List MemPlace), DataW.TrodAll enc P W 0 (fun _ => true) true ts vs ds ps → (∀ t ∈ ts, P.readableRec t = true ∧ t < P.types.size) →
      (∀ x ∈ ps, x.block < W.heap.size) → (∀ x ∈ ps, sp x.block = true) → DataW.TrodAll enc P W' 0 sp true ts vs ds ps
  | [], vs, ds, ps, h, _, _, _ => by
    obtain ⟨rfl, rfl, rfl⟩ := trodAll_nil h
    exact trodAll_mk0
  | t :: ts, vs, ds, ps, h, ht, hlt, hsp => by
    obtain ⟨v, vs', d, ds', p, q, rfl, rfl, rfl, h0, h1⟩ := trodAll_cons h
    refine trodAll_cons_mk ?_ (trodAll_keep hl hb ts vs' ds' q h1 (fun t' h' => ht t' (List.mem_cons_of_mem _ h')) (fun x hx => hlt x (List.mem_append_right _ hx)) (fun x hx => hsp x (List.mem_append_right _ hx)))
    obtain ⟨hr, hrow⟩ := ht t List.mem_cons_self
    exact WideElems.Trod_stays hl hr hrow h0 (fun x hx => hb.same (hlt x (List.mem_append_left _ hx))) (fun x hx => hsp x (List.mem_append_left _ hx))

theorem laidOut : laidOutB Try.prog = true := by kernel_rfl

set_option maxRecDepth 100000 in
/-- the post of a law that has returned true and written nothing that was there -/
theorem law_post {H : Type} {enc : TypeId × Value → H} {f : Func} {s : ChangeSpec} {W W' : World} {args : Array Value} {ds gs : List (DataW H)} {before : List MemPlace} {bt : TypeId}
    (hW : DataW.Whole enc Try.prog f.params.toList s.vars false W args.toList ds gs before) (hb : Below W.heap.size W W') (hv : s.vars = []) (hrt : f.resultTypes = #[bt]) (hbt : Try.prog.underlying bt = some .bool)
    (hpar : ∀ t ∈ f.params.toList, Try.prog.readableRec t = true ∧ t < Try.prog.types.size)
    (hres : (s.fn H (ds ++ gs)).results = [.lit (.bool true)]) (hargs : (s.fn H (ds ++ gs)).args = ds) (hvs : (s.fn H (ds ++ gs)).vars = []) :
    s.post enc Try.prog f false true false false W args (.bool true) W' := by
  have hlt : ∀ p ∈ before, p.block < W.heap.size := fun p hp => hW.lt p hp
  have hW' := hW
  obtain ⟨p, q, hA, hV, rfl, hfz, hnd⟩ := hW
  have hq : q = [] := by
    rw [hv] at hV
    exact (trodVars_none hV).2
  subst hq
  refine post_of_below (pa := p) (pv := []) hW' (fun _ _ _ => ?_) (fun sp hsp => ?_) (fun sp hsp => ?_) rfl hb ?_
  · rw [hres, hrt]
    exact trodAll_cons_mk (shut_bool hbt _) trodAll_mk0
  · rw [hargs]
    exact trodAll_keep laidOut hb _ _ _ _ hA hpar (fun x hx => hlt x (List.mem_append_left _ hx)) (fun x hx => hsp x (List.mem_append_left _ hx))
  · rw [hv, hvs]
    rfl
  · exact ok_one hrt rfl (okWide_bool_mk hbt _)
end Go.Proofs.Ytpnginnjbdedbaa

/- Arguments opened: a whole number. -/
namespace Go.Proofs.Ytpnginnjbdedbaa.Opened
open Go.ChangeShapes Go.WideShapes Go.ChangeAt Go.RowKit

section
variable {H : Type} {enc : TypeId × Value → H} {w : World} {base fuel : Nat} {spare : Nat → Bool} {held : Bool}
theorem c26 : Try.prog.cellsOf 26 = 2 := by kernel_rfl
theorem c9 : Try.prog.cellsOf 9 = 1 := by kernel_rfl
theorem c4 : Try.prog.cellsOf 4 = 1 := by kernel_rfl
set_option maxRecDepth 100000 in
theorem open_whole {cs : List Value} {x : DataW H × List MemPlace} (h : DataW.trod enc Try.prog w base spare held fuel 26 cs = some x) :
    ∃ (b : Bool) (s : ByteArray), cs = [.bool b, .string s] ∧ x.1 = .agg [.lit (.bool b), .lit (.string s.data.toList)] := by
  obtain ⟨xs, n, _, rfl, hl, hx, hf⟩ := DataW.trod_struct Try.underlying26 h
  rw [c26] at hl
  match cs, hl, xs, hx with
  | [d0, d1], _, [x0, x1], _ =>
    have h0 : DataW.trod enc Try.prog w base spare held n 4 ((List.drop 0 [d0, d1]).take (Try.prog.cellsOf 4)) = some x0 := hf 0 _ rfl
    have h1 : DataW.trod enc Try.prog w base spare held n 9 ((List.drop 1 [d0, d1]).take (Try.prog.cellsOf 9)) = some x1 := hf 1 _ rfl
    rw [c4] at h0
    rw [c9] at h1
    obtain ⟨b, hb, hx0⟩ := DataW.trod_bool Try.underlying4 h0
    obtain ⟨s, hs, hx1, _⟩ := DataW.trod_string Try.underlying9 h1
    simp only [List.drop, List.take, List.cons.injEq, and_true] at hb hs
    subst hb hs hx0 hx1
    exact ⟨b, s, rfl, rfl⟩
set_option maxRecDepth 100000 in
/-- an argument that is a whole number -/
theorem open_arg {W : World} {b0 : Nat} {v : Value} {d : DataW H} {p : List MemPlace} {P0 : Nat → Bool} (hval : Value.okWide Try.prog W .any b0 26 v) (h : DataW.Trod enc Try.prog W 0 P0 true 26 v d p) :
    ∃ (b : Bool) (s : ByteArray), v = .agg #[.bool b, .string s] ∧ d = .agg [.lit (.bool b), .lit (.string s.data.toList)] := by
  obtain ⟨cs, rfl, hsz⟩ := okWide_struct Try.underlying26 hval
  obtain ⟨fuel, hf⟩ := h
  obtain ⟨b, s, hcs, hd⟩ := open_whole hf
  have ecs : cs = #[.bool b, .string s] := by
    have : cs.toList = _ := hcs
    rw [← Array.toArray_toList (xs := cs), this]
  exact ⟨b, s, by rw [ecs], hd⟩
/-- an argument that is a text -/
theorem open_str {P : Program} {r : Reach} {b0 : Nat} {t : TypeId} {v : Value} {d : DataW H} {ps : List MemPlace} (ht : P.underlying t = some .string) (hval : Value.okWide P w r b0 t v) (hd : DataW.Trod enc P w base spare held t v d ps) :
    ∃ s : ByteArray, v = .string s ∧ d = .lit (.string s.data.toList) ∧ ps = [] := by
  obtain ⟨s, rfl⟩ := okWide_string ht hval
  obtain ⟨fuel, hf⟩ := hd
  obtain ⟨s', h, hx, _⟩ := DataW.trod_string ht hf
  simp [Value.cells] at h
  subst h
  simp only [Prod.mk.injEq] at hx
  exact ⟨s, rfl, hx.1, hx.2⟩
end
end Go.Proofs.Ytpnginnjbdedbaa.Opened
