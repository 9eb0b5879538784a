import Derived.Test.YtmjnhpagoboejaaDoorC1
import Derived.BigQuiet
import Derived.Deep.QuietTactic
import Derived.Deep.CutBlock
import Derived.Deep.CutRange
/- words.Check, Mul. -/
namespace Go.Proofs.YtmjnhpagoboejaaDoor
open Go.RowKit
open Wd
set_option linter.unusedSimpArgs false
set_option linter.unusedVariables false

set_option maxRecDepth 100000 in
theorem wcheck_any {w : World} {B n c : Nat} {A : Option Addr} {l : List Int} (hr : ReadsI w B A l) (hB : B ≤ w.heap.size) (hn : n = l.length) (hw : Wf l) (hnl : n ≤ 1000000000000) :
    Calls Tryd.prog 21 #[.slice A n c] w (fun e w' => e = .returned (.int .i64 (chk [l])) ∧ Below w.heap.size w w') := by
  subst hn
  have HC := Lib.hid (check_any (c := 1) (row_one w (A, c, l) hr hB) (n := 1) rfl (by decide) (fun r hr' => by rw [List.mem_singleton.1 hr']; exact ⟨hw, hnl⟩))
  simp only [List.map_cons, List.map_nil] at HC
  have Hb := Lib.hid ((Below.refl w.heap.size w).alloc (Nat.le_refl _) (.cells #[.slice A l.length c] 22))
  generalize chk [l] = z at *
  clear hr
  go_enter Tryd.func21, Tryd.ntmps21
  go_wp2_with fail
  refine HC.out.mono ?_
  rintro e w' ⟨rfl, rfl⟩
  go_wp2_with fail
  go_ret
  exact ⟨rfl, Hb.out⟩
/-- all letters, one word behind the other -/
def flat (rs : List SRow) : List Int := rs.flatMap (fun r => r.2.2)
theorem flat_step {rs : List SRow} {i : Nat} (h : i < rs.length) : flat (rs.take (i + 1)) = flat (rs.take i) ++ rs[i].2.2 := by
  unfold flat
  rw [List.take_succ_eq_append_getElem h, List.flatMap_append]
  simp
theorem flat_take_len (rs : List SRow) (i : Nat) : (flat (rs.take i)).length ≤ (flat rs).length := by
  have : flat rs = flat (rs.take i) ++ flat (rs.drop i) := by unfold flat; rw [← List.flatMap_append, List.take_append_drop]
  rw [this, List.length_append]
  omega
theorem flat_mem_len {rs : List SRow} {i : Nat} (h : i < rs.length) : rs[i].2.2.length ≤ (flat rs).length := by
  have := flat_take_len rs (i + 1)
  rw [flat_step h, List.length_append] at this
  omega
theorem below_on {w wr w2 : World} {A n c} {L : List Int} (hb : Below w.heap.size w wr) (ho : OwnI wr w.heap.size (.slice A n c) L) (hg : wr.grownBy w2 (Value.slice A n c).ownBlock) : Below w.heap.size w w2 :=
  hb.grown hg hb.size (fun k hk => (ho.lt k hk).1)
set_option maxRecDepth 100000 in

theorem mul1_any {w : World} {B n c g : Nat} {A : Option Addr} {rs : List SRow} (hb : Blk w g 46 #[.slice A n c]) (hr : ReadsL w B A rs) (hB : B ≤ w.heap.size) (hn : n = rs.length) (hl : ∀ r ∈ rs, LetL r.2.2) (hnl : (flat rs).length ≤ 50000000) (hnn : n ≤ 1000000000) :
    Calls Tryd.prog 65 #[.pointer (some ⟨g, 0, none⟩)] w (fun e w' => ∃ A' n' c', e = .returned (.slice A' n' c') ∧ n' ≤ c' ∧ OwnI w' w.heap.size (.slice A' n' c') (short (flat rs)) ∧ Below w.heap.size w w') := by
  have c0 : w.cell? ⟨g, 0, none⟩ = some (.slice A n c) := hb.cell 0
  have Hn := Lib.hid hn
  have Hl := Lib.hid hl
  have Hr := Lib.hid hr
  have Hb := Lib.hid hnl
  clear hb hn hl hr hnl
  go_enter Tryd.func65, Tryd.ntmps65
  go_wp2_with fail
  clear c0
  go_loopg [2, 7] n (fun k sv iv wr => ∃ (i : Nat) (A' : Option Addr) (n' c' : Nat), sv = .slice A' n' c' ∧ iv = .int .i64 (i : Int) ∧ k = n - i ∧ i ≤ n ∧ Hid (OwnI wr w.heap.size (.slice A' n' c') (short (flat (rs.take i))) ∧ Below w.heap.size w wr))
  case atStart => exact ⟨0, none, 0, 0, rfl, rfl, by omega, by omega, Lib.hid ⟨by rw [List.take_zero]; exact OwnI.nil _ _, Below.refl _ _⟩⟩
  case round =>
    obtain ⟨i, A1, n1, c1, rfl, rfl, hk, hi, hO⟩ := hrel
    have Hk := Lib.hid hk
    clear hk
    by_cases hin : i < n
    · have hil : i < rs.length := by rw [← Hn.out]; exact hin
      have hr1 := Hr.out.below (hO.out.2.mono hB)
      obtain ⟨ad, rfl, hb1, c0⟩ := hr1.at_ hil
      have hmem := List.getElem_mem hil
      have h1 := flat_take_len rs i
      have h2 := flat_mem_len hil
      have h3 := onl_len_le (flat (rs.take i)) []
      have HO := Lib.hid (on_any (cw := rs[i].2.1) hO.out.1 ((hr1.2 rs[i] hmem).more hB) hO.out.2.size rfl (Hl.out rs[i] hmem) (by unfold short; have := Hb.out; simp at h3; omega) (by have := Hb.out; omega))
      have Hst := Lib.hid (show onl (short (flat (rs.take i))) rs[i].2.2 = short (flat (rs.take (i + 1))) by rw [flat_step hil, short_app])
      have hii : (i : Int) < (n : Int) := by omega
      have hlen : rs[i].2.2.length ≤ 50000000 := by have := Hb.out; omega
      clear hmem h1 h2 h3 hb1 hr1
      generalize rs[i].2.2.length = m at *
      generalize rs[i].1 = a1 at *
      generalize rs[i].2.1 = c2 at *
      generalize rs[i].2.2 = l at *
      clear hil
      go_wp2_with fail
      refine HO.out.mono ?_
      rintro e w2 ⟨A2, n2, c3, rfl, ho, hg, hcm⟩
      have hb2 := below_on hO.out.2 hO.out.1 hg
      rw [Hst.out] at ho
      have HO2 := Lib.hid (And.intro ho hb2)
      clear ho hg hcm hb2
      go_wp2_with fail
      go_roundg (n - (i + 1))
      case measure => have := Hk.out; omega
      case rel => exact ⟨i + 1, A2, n2, c3, rfl, rfl, rfl, by omega, HO2⟩
    · have hii : (n : Int) ≤ (i : Int) := by omega
      have hfin : rs.take i = rs := by rw [List.take_of_length_le]; have := Hn.out; omega
      have hO2 := hO.out
      rw [hfin] at hO2
      have HO2 := Lib.hid hO2
      have hlen := Lib.hid hO2.1.len.2.1
      clear hO2 hfin hO
      go_wp2_with fail
      go_ret
      exact ⟨A1, n1, c1, rfl, hlen.out, HO2.out.1, HO2.out.2⟩
set_option maxRecDepth 100000 in

theorem mul_bad {w : World} {B n c : Nat} {A : Option Addr} {rs : List SRow} (hr : ReadsL w B A rs) (hB : B ≤ w.heap.size) (hn : n = rs.length) (hnl : n ≤ 1000000000) (hw : ∀ r ∈ rs, Wf r.2.2 ∧ r.2.2.length ≤ 1000000000000) (hz : chk (rs.map (fun r => r.2.2)) ≠ 0) :
    Calls Tryd.prog 30 #[.slice A n c] w (fun e w' => e = .returned (.tuple #[.slice none 0 0, .int .i64 (chk (rs.map (fun r => r.2.2)))]) ∧ Below w.heap.size w w') := by
  have HM := Lib.hid (made_bad (w := w.alloc (.cells #[.slice A n c] 46)) (c := c) (fv := .func (.func 65) #[] #[.pointer (some ⟨w.heap.size, 0, none⟩)]) (ReadsL.alloc hr hB (.cells #[.slice A n c] 46)) hn (show n ≤ 1000000000000 by omega) hw hz)
  have Hb := Lib.hid ((Below.refl w.heap.size w).alloc (Nat.le_refl _) (.cells #[.slice A n c] 46))
  generalize chk (rs.map (fun r => r.2.2)) = z at *
  clear hr hn hnl hw hz hB
  clear rs
  go_enter Tryd.func30, Tryd.ntmps30
  go_wp2_with fail
  refine HM.out.mono ?_
  rintro e w' ⟨rfl, rfl⟩
  go_wp2_with fail
  go_ret2
  exact ⟨rfl, Hb.out⟩
theorem chk_all {rs : List SRow} (h : chk (rs.map (fun r => r.2.2)) = 0) : (∀ r ∈ rs, LetL r.2.2 ∧ r.2.2.length ≤ 4096) := fun r hr => by
  unfold chk at h
  by_cases h1 : (rs.map (fun r => r.2.2)).all isWord = true
  · rw [if_pos h1] at h
    by_cases h2 : (rs.map (fun r => r.2.2)).any tooLong = true
    · rw [if_pos h2] at h; exact absurd h (by decide)
    · have hm : r.2.2 ∈ rs.map (fun r => r.2.2) := List.mem_map.2 ⟨r, hr, rfl⟩
      rw [List.all_eq_true] at h1
      have h3 := Bool.not_eq_true _ ▸ h2
      rw [List.any_eq_false] at h3
      have h4 := h3 _ hm
      unfold tooLong at h4
      exact ⟨word_let (h1 _ hm), by simpa using h4⟩
  · rw [if_neg h1] at h; exact absurd h (by decide)
set_option maxRecDepth 100000 in

/-- the product: what is made, or it is too long -/
theorem mul_ok {w : World} {B n c : Nat} {A : Option Addr} {rs : List SRow} (hr : ReadsL w B A rs) (hB : B ≤ w.heap.size) (hn : n = rs.length) (hnl : (flat rs).length ≤ 50000000) (hnn : n ≤ 1000000000) (hz : chk (rs.map (fun r => r.2.2)) = 0) :
    Calls Tryd.prog 30 #[.slice A n c] w (fun e w' => Below w.heap.size w w' ∧ (((short (flat rs)).length ≤ 4096 ∧ ∃ A' n', e = .returned (.tuple #[.slice A' n' n', .int .i64 0]) ∧ ResI w' w.heap.size A' n' (short (flat rs))) ∨ (4096 < (short (flat rs)).length ∧ e = .returned (.tuple #[.slice none 0 0, .int .i64 3])))) := by
  have hall := chk_all hz
  have hwf : ∀ r ∈ rs, Wf r.2.2 ∧ r.2.2.length ≤ 1000000000000 := fun r hr' => ⟨fun k hk => by have := (hall r hr').1 k hk; omega, by have := (hall r hr').2; omega⟩
  have hb0 := (Below.refl w.heap.size w).alloc (Nat.le_refl _) (.cells #[.slice A n c] 46)
  have h1 := mul1_any (w := w.alloc (.cells #[.slice A n c] 46)) (Blk.new w 46 #[.slice A n c]) (hr.alloc hB _) (by simp; omega) hn (fun r hr' => (hall r hr').1) hnl hnn
  have HM := Lib.hid (made_ok65 (w := w.alloc (.cells #[.slice A n c] 46)) (c := c) (ReadsL.alloc hr hB (.cells #[.slice A n c] 46)) hn (show n ≤ 1000000000000 by omega) hwf hz (R := fun A' n' c' w' => OwnI w' w.heap.size (.slice A' n' c') (short (flat rs)) ∧ Below w.heap.size w w')
    (h1.mono fun e w' ⟨A', n', c', he, hc, ho, hb⟩ => ⟨A', n', c', he, hc, ho.lower (by simp), hb0.trans (hb.mono (by simp))⟩))
  clear hr h1 hb0 hall hwf hn hnl hnn hB hz
  go_enter Tryd.func30, Tryd.ntmps30
  go_wp2_with fail
  refine HM.out.mono ?_
  rintro e w2 ⟨A2, n2, c2, ⟨ho, hb⟩, hcase⟩
  have Ho := Lib.hid (And.intro ho hb)
  have Hn2 := Lib.hid ho.len
  clear ho hb
  rcases hcase with ⟨h, rfl⟩ | ⟨h, rfl⟩
  · go_wp2_with fail
    go_ret2
    exact ⟨Ho.out.2, .inl ⟨by rw [← Hn2.out.1]; exact h, A2, n2, rfl, Hn2.out.1, c2, Ho.out.1, Hn2.out.2.1⟩⟩
  · go_wp2_with fail
    go_ret2
    exact ⟨Ho.out.2, .inr ⟨by rw [← Hn2.out.1]; exact h, rfl⟩⟩
end Go.Proofs.YtmjnhpagoboejaaDoor

/- words.Core. -/
namespace Go.Proofs.YtmjnhpagoboejaaDoor
open Go.RowKit
open Wd
set_option linter.unusedSimpArgs false
set_option linter.unusedVariables false

theorem letl_push {s : List Int} {k : Int} (h : LetL s) (hk : k ≠ 0 ∧ -64 ≤ k ∧ k ≤ 64) : LetL (pushr s k) := by
  intro x hx
  cases s with
  | nil =>
    have hx : x ∈ [k] := hx
    rw [List.mem_singleton.1 hx]; exact hk
  | cons y r =>
    unfold pushr at hx
    by_cases hy : y = -k
    · simp only [hy, if_true] at hx
      exact h x (by simp [hx])
    · simp only [hy, if_false] at hx
      rcases List.mem_cons.1 hx with rfl | hx
      · exact hk
      · exact h x hx
theorem letl_act : ∀ {l s : List Int}, LetL s → LetL l → LetL (act s l)
  | [], _, h, _ => h
  | k :: l, s, h, hl => by rw [act_cons]; exact letl_act (letl_push h (hl k (by simp))) (fun x hx => hl x (by simp [hx]))
theorem letl_rev {l : List Int} (h : LetL l) : LetL l.reverse := fun k hk => h k (List.mem_reverse.1 hk)
theorem letl_short {l : List Int} (h : LetL l) : LetL (short l) := letl_rev (letl_act (s := [].reverse) (fun k hk => by simp at hk) h)
theorem letl_drop {l : List Int} (h : LetL l) (k : Nat) : LetL (l.drop k) := fun x hx => h x (List.mem_of_mem_drop hx)
theorem short_len_le (l : List Int) : (short l).length ≤ l.length := by
  have := onl_len_le l []
  unfold short
  simpa using this

set_option maxRecDepth 100000 in
theorem core_bad {w : World} {B n c : Nat} {A : Option Addr} {l : List Int} (hr : ReadsI w B A l) (hB : B ≤ w.heap.size) (hn : n = l.length) (hw : Wf l) (hnl : n ≤ 1000000000000) (hz : chk [l] ≠ 0) :
    Calls Tryd.prog 17 #[.slice A n c] w (fun e w' => e = .returned (.tuple #[.slice none 0 0, .slice none 0 0, .int .i64 (chk [l])]) ∧ Below w.heap.size w w') := by
  subst hn
  have HC := Lib.hid (check_any (c := 1) (row_one w (A, c, l) hr hB) (n := 1) rfl (by decide) (fun r hr' => by rw [List.mem_singleton.1 hr']; exact ⟨hw, hnl⟩))
  simp only [List.map_cons, List.map_nil] at HC
  have Hb := Lib.hid ((Below.refl w.heap.size w).alloc (Nat.le_refl _) (.cells #[.slice A l.length c] 22))
  generalize chk [l] = z at *
  clear hr hw hnl hB
  have hzb : (z == 0) = false := by simp; exact hz
  go_enter Tryd.func17, Tryd.ntmps17
  go_wp2_with fail
  refine HC.out.mono ?_
  rintro e w' ⟨rfl, rfl⟩
  go_wp2_with fail
  go_ret3
  exact ⟨rfl, Hb.out⟩
/-- what Core makes -/
def CoreOut (w : World) (l : List Int) (e : Ending) (w' : World) : Prop := ∃ A1 c1 A2 c2, e = .returned (.tuple #[.slice A1 (core (short l)).length c1, .slice A2 (conj (short l)).length c2, .int .i64 0]) ∧ OwnI w' w.heap.size (.slice A1 (core (short l)).length c1) (core (short l)) ∧ OwnI w' w.heap.size (.slice A2 (conj (short l)).length c2) (conj (short l)) ∧ Below w.heap.size w w'
set_option maxRecDepth 100000 in
theorem core_ok {w : World} {B n c : Nat} {A : Option Addr} {l : List Int} (hr : ReadsI w B A l) (hB : B ≤ w.heap.size) (hn : n = l.length) (hz : chk [l] = 0) :
    Calls Tryd.prog 17 #[.slice A n c] w (CoreOut w l) := by
  obtain ⟨hw, hlen⟩ := chk_one.1 hz
  have hlet := word_let hw
  subst hn
  have hwf : Wf l := fun k hk => by have := hlet k hk; omega
  have hb0 := (Below.refl w.heap.size w).alloc (Nat.le_refl _) (.cells #[.slice A l.length c] 22)
  have HC := Lib.hid (check_any (c := 1) (row_one w (A, c, l) hr hB) (n := 1) rfl (by decide) (fun r hr' => by rw [List.mem_singleton.1 hr']; exact ⟨hwf, by show l.length ≤ _; omega⟩))
  simp only [List.map_cons, List.map_nil, hz] at HC
  have HO := Lib.hid (on_any (OwnI.nil (w.alloc (.cells #[.slice A l.length c] 22)) w.heap.size) (hr.alloc hB (.cells #[.slice A l.length c] 22) |>.more hB) (cw := c) (by simp) rfl hlet (by simp) (by omega))
  have Hl := Lib.hid (And.intro hlet hlen)
  have Hb0 := Lib.hid hb0
  clear hr hw hwf hB hz hlet hlen hb0
  go_enter Tryd.func17, Tryd.ntmps17
  go_wp2_with fail
  refine HC.out.mono ?_
  rintro e w' ⟨rfl, rfl⟩
  go_wp2_with fail
  refine HO.out.mono ?_
  rintro e w2 ⟨A2, n2, c2, rfl, ho, hg, _⟩
  have hl2 : LetL (short l) := letl_short Hl.out.1
  have hls : (short l).length ≤ 4096 := by have := short_len_le l; have := Hl.out.2; omega
  have ho' : OwnI w2 w.heap.size (.slice A2 n2 c2) (short l) := ho
  obtain ⟨e1, e2, e3⟩ := ho'.len
  have e3 : c2 ≤ 9223372036854775807 := e3
  have Hb2 := Lib.hid (Hb0.out.grown hg (by simp) (fun k hk => by cases hk))
  have HP := Lib.hid (parted_any ho'.reads e1 e2 hl2 (by omega) e3)
  have Hls := Lib.hid (And.intro hl2 (And.intro hls e1))
  have hsz : w.heap.size ≤ w2.heap.size := Hb2.out.size
  have Hsz := Lib.hid hsz
  clear ho ho' hg hl2 hls e1 e2 e3 hsz
  go_wp2_with fail
  refine HP.out.mono ?_
  rintro e w3 ⟨Ac, cc, Av, cv, d, rfl, hrc, hrv, _, _, _, _, rfl⟩
  have HC1 := Lib.hid (clone_any (w := w2.drewN d) (c := cc) hrc (show n2 - 2 * parts (short l) = (core (short l)).length by rw [core_len, ← Hls.out.2.2]) (by simp) (by have := Hls.out.2; omega))
  have Hrv := Lib.hid hrv
  clear hrc hrv
  go_wp2_with fail
  refine HC1.out.mono ?_
  rintro e w4 ⟨A4, c4, rfl, ho4, hb4⟩
  have HC2 := Lib.hid (clone_any (w := w4) (c := cv) ((Hrv.out.drewN d).below hb4) (show parts (short l) = (conj (short l)).length by rw [conj_len]) (hb4.size) (by have := parts_le (short l); have := Hls.out.2; omega))
  have Ho4 := Lib.hid (And.intro ho4 hb4)
  clear ho4 hb4
  go_wp2_with fail
  refine HC2.out.mono ?_
  rintro e w5 ⟨A5, c5, rfl, ho5, hb5⟩
  have Ho5 := Lib.hid (And.intro ho5 hb5)
  clear ho5 hb5
  go_wp2_with fail
  go_ret3
  have es1 : n2 - 2 * parts (short l) = (core (short l)).length := by rw [core_len, ← Hls.out.2.2]
  have es2 : parts (short l) = (conj (short l)).length := by rw [conj_len]
  have hs4 : w2.heap.size ≤ w4.heap.size := Ho4.out.2.size
  refine ⟨A4, c4, A5, c5, by rw [es1, es2]; rfl, ?_, ?_, ?_⟩
  · rw [← es1]; exact (Ho4.out.1.kept Ho5.out.2).lower Hsz.out
  · rw [← es2]; exact Ho5.out.1.lower (by have := Hsz.out; omega)
  · have h1 : Below w.heap.size w (w2.drewN d) := ⟨Hb2.out.os, Hb2.out.tape, Hb2.out.output, Hb2.out.size, Hb2.out.block⟩
    exact (h1.trans (Ho4.out.2.mono Hsz.out)).trans (Ho5.out.2.mono (by have := Hsz.out; omega))
end Go.Proofs.YtmjnhpagoboejaaDoor

/- words.Conj (printed by gen_conj.py). -/
namespace Go.Proofs.YtmjnhpagoboejaaDoor
open Go.RowKit
open Wd
set_option linter.unusedSimpArgs false
set_option linter.unusedVariables false

theorem inv_length (l : List Int) : (inv l).length = l.length := by unfold inv; simp
set_option maxRecDepth 100000 in
set_option maxHeartbeats 2000000 in
theorem conj1_any {w : World} {na ca nb cb ga gb : Nat} {Aa Ab : Option Addr} {a b : List Int} (hga : Blk w ga 22 #[.slice Aa na ca]) (hgb : Blk w gb 22 #[.slice Ab nb cb]) (hra : ReadsI w w.heap.size Aa a) (hrb : ReadsI w w.heap.size Ab b) (hna : na = a.length) (hnb : nb = b.length) (hla : LetL a) (hlb : LetL b) (hba : na ≤ 10000000) (hbb : nb ≤ 10000000) :
    Calls Tryd.prog 69 #[.pointer (some ⟨gb, 0, none⟩), .pointer (some ⟨ga, 0, none⟩)] w (fun e w' => ∃ A' n' c', e = .returned (.slice A' n' c') ∧ n' ≤ c' ∧ OwnI w' w.heap.size (.slice A' n' c') (onl (onl (inv (short b)) a) b) ∧ Below w.heap.size w w') := by
  subst hna hnb
  have q0 : ∀ w', Below w.heap.size w w' → w'.cell? ⟨ga, 0, none⟩ = some (.slice Aa a.length ca) := fun w' h => (hga.below h hga.lt).cell 0
  have q1 : ∀ w', Below w.heap.size w w' → w'.cell? ⟨gb, 0, none⟩ = some (.slice Ab b.length cb) := fun w' h => (hgb.below h hgb.lt).cell 0
  have HR := Lib.hid (And.intro hrb hra)
  have HL := Lib.hid (And.intro hlb hla)
  have hsb := short_len_le b
  have HS := Lib.hid (show LetL (short b) ∧ (short b).length ≤ 100000000 from ⟨letl_short hlb, by omega⟩)
  have HB := Lib.hid (show b.length ≤ 100000000 ∧ a.length ≤ 100000000 from ⟨by omega, by omega⟩)
  have HI := Lib.hid (show (inv (short b)).length ≤ 100000000 by rw [inv_length]; omega)
  have HI2 := Lib.hid (show (onl (inv (short b)) a).length ≤ 100000000 by have h1 := onl_len_le a (inv (short b)); rw [inv_length] at h1; omega)
  clear hra hrb hla hlb hsb hba hbb hga hgb
  go_enter Tryd.func69, Tryd.ntmps69
  go_wp2_with fail
  refine wp_region_noPanic ?_
  refine wp_region_held_drew (S := fun w' => Below w.heap.size w w') (by kernel_rfl) (Below.refl _ _).drew (fun hHeld => ?_)
  have b0 : Below w.heap.size w w.drew := hHeld
  refine wpAnyH_take (i := 0) (oi := Oper.mk (some 3) _ _ _ _ _) (v := ?_) rfl (by kernel_rfl) (by kernel_rfl) (by kernel_rfl) (fun _ _ _ h => h) (Or.inl ⟨by rfl, ?_⟩) (by assumption) ?_
  rotate_left
  · (intro w' hSw; (try dsimp only at hSw); go_simp; try with_reducible rfl)
  try simp only [Act.put, List.setIfInBounds_toArray, List.set_cons_zero, List.set_cons_succ]
  refine wpAnyH_take (i := 3) (oi := Oper.mk (some 6) _ _ _ _ _) (v := ?_) rfl (by kernel_rfl) (by kernel_rfl) (by kernel_rfl) (fun _ _ _ h => h) (Or.inl ⟨by rfl, ?_⟩) (by assumption) ?_
  rotate_left
  · (intro w' hSw; (try dsimp only at hSw); go_simp; try with_reducible rfl)
  try simp only [Act.put, List.setIfInBounds_toArray, List.set_cons_zero, List.set_cons_succ]
  refine wpAnyH_take (i := 5) (oi := Oper.mk (some 8) _ _ _ _ _) (v := ?_) rfl (by kernel_rfl) (by kernel_rfl) (by kernel_rfl) (fun _ _ _ h => h) (Or.inl ⟨by rfl, ?_⟩) (by assumption) ?_
  rotate_left
  · (intro w' hSw; (try dsimp only at hSw); go_simp; try with_reducible rfl)
  try simp only [Act.put, List.setIfInBounds_toArray, List.set_cons_zero, List.set_cons_succ]
  refine wpAnyH_ready (rs := [1]) (by kernel_rfl) (by simp) ?_
  refine AllReadyH.cons (o := Oper.mk (some 4) _ _ _ _ _) rfl (fun K hK => ?_) AllReadyH.nil
  go_simp
  refine (on_any (B := w.heap.size) (OwnI.nil _ _) (HR.out.1.below b0) b0.size rfl HL.out.1 (by simp) HB.out.1).mono ?_
  rintro e w1 ⟨A1, n1, c1, rfl, ho1, hg1, _⟩
  try simp only []
  have b1 : Below w.heap.size w w1 := Below.grown b0 hg1 b0.size (fun k hk => by cases hk)
  have ho1 : OwnI w1 w.heap.size (.slice A1 n1 c1) (short b) := ho1
  refine hK.out _ _ b1 (fun _ => ?_)
  clear hK K hHeld
  have hHeld := b1
  try simp only [Act.put, List.setIfInBounds_toArray, List.set_cons_zero, List.set_cons_succ]
  refine wpAnyH_ready (rs := [2]) (by kernel_rfl) (by simp) ?_
  refine AllReadyH.cons (o := Oper.mk (some 5) _ _ _ _ _) rfl (fun K hK => ?_) AllReadyH.nil
  go_simp
  refine (back_any (c := c1) ho1.reads (Nat.le_refl _) ho1.len.1 HS.out.1 (by have := ho1.len.1; have := HS.out.2; omega)).mono ?_
  rintro e w2 ⟨A2, c2, rfl, ho2', hb2⟩
  try simp only []
  have ho2 := ho2'.lower b1.size
  have b2 : Below w.heap.size w w2 := Below.trans b1 (hb2.mono b1.size)
  clear hb2 ho2'
  refine hK.out _ _ b2 (fun _ => ?_)
  clear hK K hHeld
  have hHeld := b2
  try simp only [Act.put, List.setIfInBounds_toArray, List.set_cons_zero, List.set_cons_succ]
  refine wpAnyH_ready (rs := [4]) (by kernel_rfl) (by simp) ?_
  refine AllReadyH.cons (o := Oper.mk (some 7) _ _ _ _ _) rfl (fun K hK => ?_) AllReadyH.nil
  go_simp
  refine (on_any (B := w.heap.size) ho2 (HR.out.2.below b2) b2.size rfl HL.out.2 HI.out HB.out.2).mono ?_
  rintro e w3 ⟨A3, n3, c3, rfl, ho3, hg3, _⟩
  try simp only []
  have b3 : Below w.heap.size w w3 := Below.grown b2 hg3 b2.size (fun k hk => (ho2.lt k hk).1)
  refine hK.out _ _ b3 (fun _ => ?_)
  clear hK K hHeld
  have hHeld := b3
  try simp only [Act.put, List.setIfInBounds_toArray, List.set_cons_zero, List.set_cons_succ]
  refine wpAnyH_ready (rs := [6]) (by kernel_rfl) (by simp) ?_
  refine AllReadyH.cons (o := Oper.mk (some 9) _ _ _ _ _) rfl (fun K hK => ?_) AllReadyH.nil
  go_simp
  refine (on_any (B := w.heap.size) ho3 (HR.out.1.below b3) b3.size rfl HL.out.1 (HI2.out) HB.out.1).mono ?_
  rintro e w4 ⟨A4, n4, c4, rfl, ho4, hg4, _⟩
  try simp only []
  have b4 : Below w.heap.size w w4 := Below.grown b3 hg4 b3.size (fun k hk => (ho3.lt k hk).1)
  refine hK.out _ _ b4 (fun _ => ?_)
  clear hK K hHeld
  have hHeld := b4
  try simp only [Act.put, List.setIfInBounds_toArray, List.set_cons_zero, List.set_cons_succ]
  refine wpAnyH_take (i := 7) (oi := Oper.mk (some 2) _ _ _ _ _) (v := ?_) rfl (by kernel_rfl) (by kernel_rfl) (by kernel_rfl) (fun _ _ _ h => h) (Or.inl ⟨by rfl, ?_⟩) (by assumption) ?_
  rotate_left
  · (intro w' hSw; (try dsimp only at hSw); go_simp; try with_reducible rfl)
  try simp only [Act.put, List.setIfInBounds_toArray, List.set_cons_zero, List.set_cons_succ]
  refine wpAnyH_done (by kernel_rfl) ?_ _
  refine NoPanic.normal ?_
  go_wp2_with fail
  go_ret
  exact ⟨A4, n4, c4, rfl, ho4.len.2.1, ho4, b4⟩
end Go.Proofs.YtmjnhpagoboejaaDoor

/- words.Pow: plain. -/
namespace Go.Proofs.YtmjnhpagoboejaaDoor
open Wd
/-- a word, so many times -/
def reps : Nat → List Int → List Int
  | 0, _ => []
  | k + 1, c => reps k c ++ c
theorem reps_len (c : List Int) : ∀ k, (reps k c).length = k * c.length
  | 0 => by simp [reps]
  | k + 1 => by rw [reps, List.length_append, reps_len c k, Nat.succ_mul]
/-- what the power is of, and how often -/
def pbase (l : List Int) (x : Int) : List Int := if x < 0 then inv (short l) else short l
/-- the power -/
def powl (l : List Int) (x : Int) : List Int := if x = 0 ∨ pbase l x = [] then [] else inv (conj (pbase l x)) ++ reps x.natAbs (core (pbase l x)) ++ conj (pbase l x)
theorem pbase_len (l : List Int) (x : Int) : (pbase l x).length = (short l).length := by
  unfold pbase
  by_cases h : x < 0
  · rw [if_pos h, inv_length]
  · rw [if_neg h]
theorem letl_inv {l : List Int} (h : LetL l) : LetL (inv l) := fun k hk => by
  unfold inv at hk
  simp only [List.mem_reverse, List.mem_map] at hk
  obtain ⟨x, hx, rfl⟩ := hk
  have := h x hx
  omega
end Go.Proofs.YtmjnhpagoboejaaDoor

/- words.period. -/
namespace Go.Proofs.YtmjnhpagoboejaaDoor
open Go.RowKit
open Wd
set_option linter.unusedSimpArgs false
set_option linter.unusedVariables false

/-- the first p from here on that divides the length and moves the word onto itself -/
def perN (l : List Int) : Nat → Nat → Nat
  | 0, p => p
  | f + 1, p => if l.length % p ≠ 0 ∨ l.drop p ≠ l.take (l.length - p) then perN l f (p + 1) else p
def per (l : List Int) : Nat := perN l (l.length - 1) 1
theorem perN_go {l : List Int} {p : Nat} (hp : p < l.length) (h : l.length % p ≠ 0 ∨ l.drop p ≠ l.take (l.length - p)) : perN l (l.length - p) p = perN l (l.length - (p + 1)) (p + 1) := by
  rw [show l.length - p = (l.length - (p + 1)) + 1 by omega, perN, if_pos h]
theorem perN_stop {l : List Int} {p : Nat} (h : l.length % p = 0 ∧ l.drop p = l.take (l.length - p)) : perN l (l.length - p) p = p := by
  cases l.length - p with
  | zero => rfl
  | succ f =>
    rw [perN, if_neg]
    · intro h'
      rcases h' with h' | h'
      · exact h' h.1
      · exact h' h.2
/-- what period leaves -/
def PerOut (w : World) (l : List Int) (e : Ending) (w' : World) : Prop := ∃ d, e = .returned (.int .i64 (per l : Int)) ∧ w.drewN d = w'
theorem per_out {w : World} {l : List Int} {p : Nat} (d : Nat) (h : per l = p) : PerOut w l (.returned (.int .i64 (p : Int))) (w.drewN d) := ⟨d, by rw [h], rfl⟩
theorem equal_quiet {w : World} (dd : Nat) {B B' n n' c c' : Nat} {A A' : Option Addr} {l m : List Int} {b : Bool} (hr : ReadsI w B A l) (hr' : ReadsI w B' A' m) (hn : n = l.length) (hn' : n' = m.length) (hb : n ≤ 1000000000) (hb' : n' ≤ 1000000000) (h : decide (l = m) = b) :
    ∀ q, Calls Tryd.prog 78 #[.slice A n c, .slice A' n' c'] (w.drewN (dd + q)) (fun e w' => e = .returned (.bool b) ∧ ∃ k, w' = w.drewN (dd + k)) := by
  intro q
  refine (equal_any (hr.drewN (dd + q)) (hr'.drewN (dd + q)) hn hn' hb hb').mono ?_
  rintro e w' ⟨d, rfl, rfl⟩
  exact ⟨by rw [h], q + d, by rw [World.drewN_drewN, Nat.add_assoc]⟩
theorem run_remI {n p r : Nat} (hp : 1 ≤ p) (hr : r = n % p) (hn : n ≤ 1000000000) (w : World) : (Op.intDiv .rem .i64 (n : Int) (p : Int)).run Tryd.prog w = .ok (.int .i64 (r : Int)) w := by
  have h0 : (p : Int) ≠ 0 := by omega
  have h1 : Int.tmod (n : Int) (p : Int) = (r : Int) := by rw [hr]; rfl
  have h2 : r ≤ n := by rw [hr]; exact Nat.mod_le _ _
  unfold Op.intDiv
  rw [if_neg h0]
  show Result.ok (Value.int IntKind.i64 (Int.tmod (n : Int) (p : Int))) w = _
  rw [h1]
set_option maxRecDepth 100000 in
set_option maxHeartbeats 2000000 in
theorem period_any {w : World} {B n c : Nat} {A : Option Addr} {l : List Int} (hr : ReadsI w B A l) (hn : n = l.length) (hn1 : 1 ≤ n) (hnc : n ≤ c) (hb : n ≤ 1000000000) (hc : c ≤ 9223372036854775807) :
    Calls Tryd.prog 60 #[.slice A n c] w (PerOut w l) := by
  have Hn := Lib.hid hn
  obtain ⟨ad, hA, h2, h3⟩ := hr.at_ (k := 0) (by omega)
  clear h2 h3
  subst hA
  have Hr := Lib.hid hr
  clear hr hn
  go_enter Tryd.func60, Tryd.ntmps60
  go_wp2_with fail
  go_loopg [3] (n - 1) (fun k iv wr => ∃ (p d : Nat), iv = .int .i64 (p : Int) ∧ k = n - p ∧ 1 ≤ p ∧ p ≤ n ∧ Hid (perN l (n - p) p = per l) ∧ Hid (wr = w.drewN d))
  case atStart => exact ⟨1, 0, rfl, rfl, by omega, hn1, Lib.hid (by rw [Hn.out]; rfl), Lib.hid rfl⟩
  case round =>
    obtain ⟨p, d, rfl, hk, hp1, hpn, hper, hw⟩ := hrel
    have Hk := Lib.hid hk
    clear hk
    have ew := hw.out
    subst ew
    have htm : Int.tmod (n : Int) (p : Int) = ((n % p : Nat) : Int) := by rfl
    have hm := Nat.mod_lt n (show p > 0 by omega)
    obtain ⟨r, hrr⟩ : ∃ r, r = n % p := ⟨_, rfl⟩
    rw [← hrr] at htm hm
    have Hrr := Lib.hid hrr
    have hp00 : ¬ p = 0 := by omega
    clear hrr
    rcases Nat.eq_zero_or_pos r with h0 | h0
    · subst h0
      have hz : ((0 : Int) != 0) = false := rfl
      simp only [Int.natCast_zero, Int.ofNat_zero, Int.cast_ofNat_Int] at htm
      have hc0 : ¬ c = 0 := by omega
      have s1 : IntKind.i64.wrap ((n : Int) - (p : Int)) = (n : Int) - (p : Int) := by rw [IntKind.wrap_i64]; omega
      have s2 : ((n : Int) - (p : Int)).toNat = n - p := by omega
      have s3 : 0 ≤ (n : Int) - (p : Int) := by omega
      have s4 : (n : Int) - (p : Int) ≤ (c : Int) := by omega
      have rt : ReadsI w B (some ad) (l.take (n - p)) := by have h := reads_all Hr.out 0 l.length rfl rfl; rw [List.drop_zero, List.take_of_length_le (Nat.le_refl _)] at h; have h2 := ReadsI.take (l := l.take (n - p)) (m := l.drop (n - p)) (by rw [List.take_append_drop]; exact h); exact h2
      have rd : ReadsI w B (some (ad.add p)) (l.drop p) := by have h := reads_part Hr.out p (n - p) (by rw [← Hn.out]; omega); rw [List.take_of_length_le (by rw [List.length_drop, ← Hn.out]; omega)] at h; exact h
      have lt : n - p = (l.take (n - p)).length := by rw [List.length_take, ← Hn.out]; omega
      have ld : n - p = (l.drop p).length := by rw [List.length_drop, ← Hn.out]
      obtain ⟨b, hbb⟩ : ∃ b, decide (l.drop p = l.take (n - p)) = b := ⟨_, rfl⟩
      by_cases hcp : c = p
      · have hpn' : p = n := by omega
        clear rt rd lt ld hbb
        have HQ := Lib.hid (equal_quiet (w := w) d (n := 0) (n' := 0) (c := 0) (c' := p) (A := some ad) (A' := some ad) (l := []) (m := []) (b := true) (reads_none (B := B) rfl) (reads_none (B := B) rfl) rfl rfl (by omega) (by omega) rfl)
        have hstop := Lib.hid (show per l = p by
          rw [← hper.out]
          have h1 := Hn.out
          rw [← hpn'] at h1
          have hr0 := Hrr.out
          rw [← hpn'] at hr0
          rw [← hpn', h1]
          exact perN_stop ⟨Nat.mod_self _, by rw [Nat.sub_self, List.take_zero, List.drop_of_length_le (Nat.le_refl _)]⟩)
        subst hcp
        subst hpn'
        clear s1 s2 s3 s4
        go_wp2_with (go_quiet ((go_at_call 78; exact HQ.out _)))
        go_ret
        exact per_out _ hstop.out
      · have HQ := Lib.hid (equal_quiet d (c := c - p) (c' := c) rd rt ld lt (by omega) (by omega) hbb)
        clear rt rd lt ld
        have hdq : b = true ∨ b = false := by cases b <;> simp
        rcases hdq with hbt | hbf
        · subst hbt
          have Hbb := Lib.hid (of_decide_eq_true hbb)
          clear hbb
          have hstop := Lib.hid (show per l = p by rw [← hper.out]; have h1 := Hn.out; have h2 := Hbb.out; rw [h1]; rw [h1] at h2 Hrr; exact perN_stop ⟨Hrr.out.symm, h2⟩)
          go_wp2_with (go_quiet ((go_at_call 78; exact HQ.out _)))
          go_ret
          exact per_out _ hstop.out
        · subst hbf
          have hne := of_decide_eq_false hbb
          have hpl : p < n := by
            rcases Nat.lt_or_ge p n with h | h
            · exact h
            · have e : p = n := by omega
              subst e
              exact absurd (by rw [Nat.sub_self, List.take_zero, List.drop_of_length_le (by rw [← Hn.out]; omega)]) hne
          have hnext := Lib.hid (show perN l (n - (p + 1)) (p + 1) = per l by rw [← hper.out]; have h1 := Hn.out; rw [h1]; rw [h1] at hpl hne; exact (perN_go hpl (.inr hne)).symm)
          clear hbb hne
          go_wp2_with (go_quiet ((go_at_call 78; exact HQ.out _)))
          go_roundg (n - (p + 1))
          case measure => have := Hk.out; omega
          case rel => exact ⟨p + 1, _, rfl, rfl, by omega, by omega, hnext, Lib.hid rfl⟩
    · have hneq : ((r : Int) != 0) = true := by simp; omega
      have hpl : p < n := by
        rcases Nat.lt_or_ge p n with h | h
        · exact h
        · have : p = n := by omega
          subst this
          have h1 := Hrr.out
          rw [Nat.mod_self] at h1
          omega
      have hnext := Lib.hid (show perN l (n - (p + 1)) (p + 1) = per l by rw [← hper.out]; have h1 := Hn.out; rw [h1]; rw [h1] at hpl Hrr; exact (perN_go hpl (.inl (by rw [← Hrr.out]; omega))).symm)
      go_wp2_with (go_quiet (fail))
      go_roundg (n - (p + 1))
      case measure => have := Hk.out; omega
      case rel => exact ⟨p + 1, _, rfl, rfl, by omega, by omega, hnext, Lib.hid rfl⟩
end Go.Proofs.YtmjnhpagoboejaaDoor

/- append on ints, as one operation. -/
namespace Go.Proofs.YtmjnhpagoboejaaDoor
open Go.RowKit
open Wd
set_option linter.unusedSimpArgs false
set_option linter.unusedVariables false

theorem stepI_append {w : World} {ops : Array Oper} {o : Oper} {a : Act} {K : Act → World → Prop} {Q : Exit → Act → World → Prop} {E : Prop} (hgd : o.guard = none) (s x : Operand)
    (ho : o.op = .call { callee := .builtin .append, args := #[s, x], argTypes := #[22, 22] }) (B : Nat) (v : Value) (l : List Int) (hown : OwnI w B v l) (hs : a.eval s = v)
    (B' : Nat) (A : Option Addr) (news : List Int) (hr : ReadsI w B' A news) (m c : Nat) (hm : m = news.length) (hx : a.eval x = .slice A m c) (hl1 : l.length ≤ 1000000000) (hl2 : news.length ≤ 1000000000) (hbase : B ≤ w.heap.size)
    (h : ∀ A' n' c' w', OwnI w' B (.slice A' n' c') (l ++ news) → w.grownBy w' v.ownBlock → K (a.put o.dst (.slice A' n' c')) w') :
    if Region.wanted o (yielded ops a.tmps) = true then Oper.wp Tryd.prog o a w K Q else E := by
  have hw : Region.wanted o (yielded ops a.tmps) = true := by simp [Region.wanted, hgd]
  rw [if_pos hw]
  obtain ⟨i0, hi, hz0, hz1, hz2⟩ := info_parts infoI
  subst hm
  refine wp_append_any w s x 22 ho B 3 i0 (.int .i64 0) 1 8 Tryd.underlying22 hi hz0 hz1 hz2 rfl (by decide) v l.length (l.map iv) hs hown B' A news.length c (news.map iv) hx hr (iv_one _) (by unfold maxLen; omega) (by omega) hbase ?_
  intro v' w' h1 h2 h3
  have h4 : OwnI w' B v' (l ++ news) := by
    unfold OwnI
    rw [List.length_append, List.map_append]
    exact h1
  obtain ⟨A', c', rfl, _⟩ := h4.form
  exact h A' _ c' w' h4 h2
end Go.Proofs.YtmjnhpagoboejaaDoor

/- Words, plain: reduced words by their places; what is cut off at both ends. -/
namespace Go.Proofs.YtmjnhpagoboejaaDoor
namespace Wd
theorem red_iff : ∀ {s : List Int}, Red s ↔ Nz s ∧ ∀ i, i + 1 < s.length → s.getD (i + 1) 0 ≠ - s.getD i 0
  | [] => ⟨fun _ => ⟨fun k hk => by simp at hk, fun i hi => by simp at hi⟩, fun _ => trivial⟩
  | [k] => ⟨fun h => ⟨fun x hx => by rw [List.mem_singleton.1 hx]; exact h, fun i hi => by simp at hi⟩, fun h => h.1 k (by simp)⟩
  | k :: x :: r => by
    have ih := red_iff (s := x :: r)
    constructor
    · intro h
      refine ⟨red_nz h, fun i hi => ?_⟩
      cases i with
      | zero => exact h.2.1
      | succ i => exact (ih.1 h.2.2).2 i (by simp at hi ⊢; omega)
    · intro h
      refine ⟨h.1 k (by simp), h.2 0 (by simp), ih.2 ⟨fun y hy => h.1 y (List.mem_cons_of_mem _ hy), fun i hi => h.2 (i + 1) (by simp at hi ⊢; omega)⟩⟩
theorem getD_rev (s : List Int) {i : Nat} (h : i < s.length) : s.reverse.getD i 0 = s.getD (s.length - 1 - i) 0 := by
  rw [List.getD_eq_getElem?_getD, List.getD_eq_getElem?_getD, List.getElem?_reverse h]
theorem red_rev' {s : List Int} (h : Red s) : Red s.reverse := by
  have hi := red_iff.1 h
  refine red_iff.2 ⟨fun k hk => hi.1 k (List.mem_reverse.1 hk), fun i hl => ?_⟩
  rw [List.length_reverse] at hl
  rw [getD_rev s hl, getD_rev s (by omega)]
  have := hi.2 (s.length - 1 - (i + 1)) (by omega)
  rw [show s.length - 1 - (i + 1) + 1 = s.length - 1 - i by omega] at this
  omega
theorem red_rev {s : List Int} : Red s.reverse ↔ Red s := ⟨fun h => by have := red_rev' h; rwa [List.reverse_reverse] at this, red_rev'⟩
theorem red_short' {w : List Int} (hw : Nz w) : Red (short w) := red_rev.1 (red_short hw)
theorem short_id {w : List Int} (h : Red w) : short w = w := short_red (red_rev' h)
theorem getD_neg (l : List Int) (i : Nat) : (l.map (fun k => -k)).getD i 0 = - l.getD i 0 := by
  rw [List.getD_eq_getElem?_getD, List.getD_eq_getElem?_getD, List.getElem?_map]
  cases l[i]? <;> simp
theorem red_neg {s : List Int} (h : Red s) : Red (s.map (fun k => -k)) := by
  have hi := red_iff.1 h
  refine red_iff.2 ⟨fun k hk => ?_, fun i hl => ?_⟩
  · obtain ⟨x, hx, rfl⟩ := List.mem_map.1 hk
    have := hi.1 x hx
    omega
  · rw [List.length_map] at hl
    rw [getD_neg, getD_neg]
    have := hi.2 i hl
    omega
theorem red_inv {s : List Int} (h : Red s) : Red (inv s) := by
  unfold inv
  exact red_rev' (red_neg h)
theorem cutN_spec {l : List Int} : ∀ f i, 2 * i ≤ l.length → (∀ j, j < i → l.getD j 0 = - l.getD (l.length - 1 - j) 0) → 2 * cutN l f i ≤ l.length ∧ ∀ j, j < cutN l f i → l.getD j 0 = - l.getD (l.length - 1 - j) 0
  | 0, i, h, h2 => ⟨h, h2⟩
  | f + 1, i, h, h2 => by
    unfold cutN
    by_cases hc : 2 * i + 1 < l.length ∧ l.getD i 0 = - l.getD (l.length - 1 - i) 0
    · rw [if_pos hc]
      refine cutN_spec f (i + 1) (by omega) (fun j hj => ?_)
      rcases Nat.lt_or_ge j i with h3 | h3
      · exact h2 j h3
      · rw [show j = i by omega]; exact hc.2
    · rw [if_neg hc]; exact ⟨h, h2⟩
theorem parts_spec (l : List Int) : ∀ j, j < parts l → l.getD j 0 = - l.getD (l.length - 1 - j) 0 := (cutN_spec l.length 0 (by omega) (fun j hj => by omega)).2
/-- where it stops -/
theorem cutN_end {l : List Int} : ∀ f i, l.length ≤ f + 2 * i + 1 → ¬ (2 * cutN l f i + 1 < l.length ∧ l.getD (cutN l f i) 0 = - l.getD (l.length - 1 - cutN l f i) 0)
  | 0, i, h => by unfold cutN; omega
  | f + 1, i, h => by
    unfold cutN
    by_cases hc : 2 * i + 1 < l.length ∧ l.getD i 0 = - l.getD (l.length - 1 - i) 0
    · rw [if_pos hc]; exact cutN_end f (i + 1) (by omega)
    · rw [if_neg hc]; exact hc
theorem parts_end (l : List Int) : ¬ (2 * parts l + 1 < l.length ∧ l.getD (parts l) 0 = - l.getD (l.length - 1 - parts l) 0) := cutN_end l.length 0 (by omega)
theorem parts_lt {l : List Int} (h : Red l) (h1 : 1 ≤ l.length) : 2 * parts l < l.length := by
  have h2 := parts_le l
  rcases Nat.lt_or_ge (2 * parts l) l.length with h3 | h3
  · exact h3
  · exfalso
    have hs := parts_spec l (parts l - 1) (by omega)
    have hr := (red_iff.1 h).2 (parts l - 1) (by omega)
    rw [show l.length - 1 - (parts l - 1) = parts l - 1 + 1 by omega] at hs
    omega
theorem core_pos {l : List Int} (h : Red l) (h1 : 1 ≤ l.length) : 1 ≤ (core l).length := by
  rw [core_len]
  have := parts_lt h h1
  omega
/-- by what it is conjugated: the first letters turned round are the last ones -/
theorem inv_first (l : List Int) : inv (l.take (parts l)) = conj l := by
  have h2 := parts_le l
  unfold inv conj
  apply List.ext_getElem?
  intro i
  rcases Nat.lt_or_ge i (parts l) with hi | hi
  · have hs := parts_spec l (parts l - 1 - i) (by omega)
    rw [List.getElem?_reverse (by simp; omega), List.length_map, List.length_take, List.getElem?_map, List.getElem?_take, List.getElem?_drop, Nat.min_eq_left (by omega), if_pos (by omega)]
    rw [List.getD_eq_getElem?_getD, List.getD_eq_getElem?_getD, show l.length - 1 - (parts l - 1 - i) = l.length - parts l + i by omega, List.getElem?_eq_getElem (by omega), List.getElem?_eq_getElem (by omega)] at hs
    rw [List.getElem?_eq_getElem (by omega), List.getElem?_eq_getElem (by omega)]
    simp only [Option.getD_some] at hs
    simp only [Option.map_some]
    rw [hs, Int.neg_neg]
  · rw [List.getElem?_eq_none (by simp; omega), List.getElem?_eq_none (by simp; omega)]
/-- a word is its core, conjugated -/
theorem word_parts (l : List Int) : l = inv (conj l) ++ core l ++ conj l := by
  have h2 := parts_le l
  rw [← inv_first, inv_inv]
  rw [inv_first]
  unfold core conj
  have e1 : List.drop (l.length - parts l) l = List.drop (l.length - 2 * parts l) (List.drop (parts l) l) := by
    rw [List.drop_drop]; congr 1; omega
  rw [e1, List.append_assoc, List.take_append_drop, List.take_append_drop]
end Wd
end Go.Proofs.YtmjnhpagoboejaaDoor

/- words.Pow's closure. -/
namespace Go.Proofs.YtmjnhpagoboejaaDoor
open Go.RowKit
open Wd
set_option linter.unusedSimpArgs false
set_option linter.unusedVariables false

theorem OwnI.setCell {w : World} {B : Nat} {v : Value} {l : List Int} (h : OwnI w B v l) (p : Addr) (hp : p.block < B) (u : Value) : OwnI (w.setCell p u) B v l := by
  refine ⟨h.1, ?_⟩
  rcases h.2 with h' | ⟨g, cap, cur, hv, hg, hh, r⟩
  · exact .inl h'
  · exact .inr ⟨g, cap, cur, hv, hg, (Below.heap_setCell w p u g (by omega)).trans hh, r⟩
/-- how often, cut off -/
def ypow (x : Int) : Int := if x < 0 then (if x < -4097 then 4097 else -x) else x
/-- what the closure makes: the power, or something too long where the power is too long -/
def Powed (l : List Int) (x : Int) (L : List Int) : Prop := L = powl l x ∨ (4096 < L.length ∧ 4096 < (powl l x).length)
def PowMid (w : World) (b0 g1 : Nat) (l : List Int) (x : Int) (v : Value) (wx : World) : Prop := ∃ A n c, v = .slice A n c ∧ OwnI wx w.heap.size (.slice A n c) (pbase l x) ∧ Below b0 w wx ∧ Blk wx g1 3 #[.int .i64 (ypow x)]
theorem powl_eq {l S : List Int} {x : Int} (hS : pbase l x = S) (hx : x ≠ 0) (h1 : 1 ≤ S.length) : powl l x = inv (conj S) ++ reps x.natAbs (core S) ++ conj S := by
  unfold powl
  rw [hS, if_neg]
  rintro (h | h)
  · exact hx h
  · rw [h] at h1; simp at h1
theorem powl_len {l S : List Int} {x : Int} (hS : pbase l x = S) (hx : x ≠ 0) (h1 : 1 ≤ S.length) : (powl l x).length = 2 * (conj S).length + x.natAbs * (core S).length := by
  rw [powl_eq hS hx h1, List.length_append, List.length_append, reps_len]
  unfold inv
  rw [List.length_reverse, List.length_map]
  omega
theorem powed_long {l S : List Int} {x : Int} {i : Nat} (hS : pbase l x = S) (hx : x ≠ 0) (h1 : 1 ≤ S.length) (hi : i + 1 ≤ x.natAbs) (hl : 4096 < (inv (conj S) ++ reps i (core S) ++ core S).length) : Powed l x (inv (conj S) ++ reps i (core S) ++ core S) := by
  refine .inr ⟨hl, ?_⟩
  rw [powl_len hS hx h1]
  rw [List.length_append, List.length_append, reps_len] at hl
  unfold inv at hl
  rw [List.length_reverse, List.length_map] at hl
  have h2 : (i + 1) * (core S).length ≤ x.natAbs * (core S).length := Nat.mul_le_mul_right _ hi
  rw [Nat.succ_mul] at h2
  omega
theorem powed_done {l S : List Int} {x : Int} {M : Nat} (hS : pbase l x = S) (hM : M ≤ x.natAbs ∧ x ≠ 0 ∧ (M = 4097 ∨ M = x.natAbs)) (h1 : 1 ≤ S.length) (hc : 1 ≤ (core S).length) (hl : (inv (conj S) ++ reps M (core S)).length ≤ 4096) : Powed l x (inv (conj S) ++ reps M (core S) ++ conj S) := by
  rcases hM.2.2 with h | h
  · exfalso
    rw [List.length_append, reps_len, h] at hl
    omega
  · refine .inl ?_
    rw [powl_eq hS hM.2.1 h1, h]
theorem powmid_neg {w w2 w3 : World} {b0 g1 n3 c3 : Nat} {l : List Int} {x y : Int} {A3 : Option Addr} (hx : x < 0) (hy : y = ypow x) (ho3 : OwnI w3 w2.heap.size (.slice A3 n3 c3) (inv (short l))) (hbw : Below w.heap.size w w2) (hb3 : Below w2.heap.size w2 w3) (hB1 : Blk w2 g1 3 #[.int .i64 x]) (hb : b0 ≤ g1) (hg1 : g1 < w.heap.size) :
    PowMid w b0 g1 l x (.slice A3 n3 c3) (w3.setCell ⟨g1, 0, none⟩ (.int .i64 y)) := by
  have hs := hbw.size
  refine ⟨A3, n3, c3, rfl, ?_, ?_, ?_⟩
  · unfold pbase
    rw [if_pos hx]
    exact (ho3.setCell _ (by show g1 < _; omega) _).lower hbw.size
  · exact ((hbw.mono (by omega)).trans (hb3.mono (by omega))).setCell (by exact hb) _
  · rw [← hy]
    exact (hB1.below hb3 (by omega)).set_ 0 _
set_option maxRecDepth 100000 in
set_option maxHeartbeats 2000000 in
theorem pow1_any {w : World} {b0 n c g0 g1 : Nat} {A : Option Addr} {l : List Int} {x : Int} (h0 : Blk w g0 22 #[.slice A n c]) (h1 : Blk w g1 3 #[.int .i64 x]) (hb : b0 ≤ g1) (hr : ReadsI w b0 A l) (hn : n = l.length) (hl : LetL l) (hnl : n ≤ 4096) (hx1 : -9223372036854775808 ≤ x) (hx2 : x ≤ 9223372036854775807) :
    Calls Tryd.prog 68 #[.pointer (some ⟨g0, 0, none⟩), .pointer (some ⟨g1, 0, none⟩)] w (fun e w' => ∃ A' n' c', e = .returned (.slice A' n' c') ∧ n' ≤ c' ∧ (∃ L, OwnI w' b0 (.slice A' n' c') L ∧ Powed l x L) ∧ Below b0 w w') := by
  have hg1 := h1.lt
  have HO := Lib.hid (on_any (w := w) (B := w.heap.size) (c := 0) (cw := c) (OwnI.nil w _) (hr.more (by omega)) (Nat.le_refl _) hn hl (by simp) (by omega))
  have c0 : w.cell? ⟨g0, 0, none⟩ = some (.slice A n c) := h0.cell 0
  have H1 := Lib.hid h1
  have HL := Lib.hid (And.intro (letl_short hl) (And.intro (show (short l).length ≤ 4096 by have := short_len_le l; omega) (red_short' (letl_nz hl))))
  clear h0 h1 hr hn hl hnl
  go_enter Tryd.func68, Tryd.ntmps68
  go_wp2_with fail
  refine HO.out.mono ?_
  rintro e w2 ⟨A2, n2, c2, rfl, ho, hg, _⟩
  have Ho := Lib.hid (And.intro ho hg)
  clear ho hg
  have hB1 : Blk w2 g1 3 #[.int .i64 x] := H1.out.grown Ho.out.2 (by intro h; cases h)
  have c1 : w2.cell? ⟨g1, 0, none⟩ = some (.int .i64 x) := hB1.cell 0
  have f1 : w2.frozen? ⟨g1, 0, none⟩ = false := hB1.frozen 0
  have HB1 := Lib.hid hB1
  have hbw : Below w.heap.size w w2 := Below.grown (Below.refl _ _) Ho.out.2 (Nat.le_refl _) (fun k hk => by cases hk)
  have HBW := Lib.hid hbw
  have hn2 : n2 = (short l).length := Ho.out.1.len.1
  have Hn2 := Lib.hid hn2
  clear hB1 hbw hn2
  go_upto_if 10 with fail
  go_cut [3] from 10 to 15 (fun v wx => PowMid w b0 g1 l x v wx)
  case first =>
    by_cases hx : x < 0
    · have ho : OwnI w2 w.heap.size (.slice A2 n2 c2) (short l) := Ho.out.1
      have HBk := Lib.hid (back_any (w := w2) (c := c2) ho.reads (Nat.le_refl _) Hn2.out HL.out.1 (by have := HL.out.2.1; have := Hn2.out; omega))
      clear ho
      by_cases hx3 : x < -4097
      · go_wp2_with fail
        refine HBk.out.mono ?_
        rintro e w3 ⟨A3, c3, rfl, ho3, hb3⟩
        have Ho3 := Lib.hid (And.intro ho3 hb3)
        have hc3 := hb3.cell (p := ⟨g1, 0, none⟩) (by show g1 < w2.heap.size; have := HBW.out.size; omega)
        have hf3 := hb3.frozen (p := ⟨g1, 0, none⟩) (by show g1 < w2.heap.size; have := HBW.out.size; omega)
        rw [c1] at hc3
        rw [f1] at hf3
        clear ho3 hb3
        go_wp2_with fail
        all_goals (go_meet; exact powmid_neg hx (by unfold ypow; rw [if_pos hx, if_pos hx3]) Ho3.out.1 HBW.out Ho3.out.2 HB1.out hb hg1)
      · go_wp2_with fail
        refine HBk.out.mono ?_
        rintro e w3 ⟨A3, c3, rfl, ho3, hb3⟩
        have Ho3 := Lib.hid (And.intro ho3 hb3)
        have hc3 := hb3.cell (p := ⟨g1, 0, none⟩) (by show g1 < w2.heap.size; have := HBW.out.size; omega)
        have hf3 := hb3.frozen (p := ⟨g1, 0, none⟩) (by show g1 < w2.heap.size; have := HBW.out.size; omega)
        rw [c1] at hc3
        rw [f1] at hf3
        clear ho3 hb3
        go_wp2_with fail
        all_goals (go_meet; exact powmid_neg hx (by unfold ypow; rw [if_pos hx, if_neg (by omega)]) Ho3.out.1 HBW.out Ho3.out.2 HB1.out hb hg1)
    · go_wp2_with fail
      go_meet
      exact ⟨A2, n2, c2, rfl, by unfold pbase; rw [if_neg (by omega)]; exact Ho.out.1, HBW.out.mono (by omega), by unfold ypow; rw [if_neg (by omega)]; exact HB1.out⟩
  case rest =>
    obtain ⟨A3, n3, c3, rfl, ho3, hb3, hB3⟩ := hcut
    clear HO Ho HB1 HBW Hn2 c1 f1 H1 c0
    obtain ⟨wa, hwa⟩ : ∃ wa, wa = wc := ⟨_, rfl⟩
    subst hwa
    have HB3 := Lib.hid hB3
    have hlen := ho3.len
    have HL3 := Lib.hid (show LetL (pbase l x) ∧ (pbase l x).length ≤ 4096 ∧ Red (pbase l x) by
      refine ⟨?_, by rw [pbase_len]; exact HL.out.2.1, ?_⟩ <;> unfold pbase <;> by_cases hx : x < 0
      · rw [if_pos hx]; exact letl_inv HL.out.1
      · rw [if_neg hx]; exact HL.out.1
      · rw [if_pos hx]; exact red_inv HL.out.2.2
      · rw [if_neg hx]; exact HL.out.2.2)
    have Ho3 := Lib.hid (And.intro ho3 hb3)
    have c1 : wa.cell? ⟨g1, 0, none⟩ = some (.int .i64 (ypow x)) := hB3.cell 0
    have Hy := Lib.hid (show (0 ≤ ypow x ∧ ypow x ≤ 9223372036854775807) ∧ (ypow x = 0 ↔ x = 0) ∧ (ypow x = (x.natAbs : Int) ∨ (4097 ≤ ypow x ∧ 4097 ≤ x.natAbs)) by
      unfold ypow
      by_cases h1 : x < 0
      · rw [if_pos h1]
        by_cases h2 : x < -4097
        · rw [if_pos h2]; omega
        · rw [if_neg h2]; omega
      · rw [if_neg h1]; omega)
    have Hx := Lib.hid hx2
    clear ho3 hb3 hB3 hx1 hx2
    obtain ⟨S, hS⟩ : ∃ S, pbase l x = S := ⟨_, rfl⟩
    have HS := Lib.hid hS
    rw [hS] at hlen HL3 Ho3
    clear hS
    generalize ypow x = y at *
    have hy1 := Hy.out.1
    have Hn3 := Lib.hid hlen
    clear hlen
    by_cases hy0 : y = 0
    · subst hy0
      go_wp2_with fail
      go_ret
      exact ⟨_, _, _, rfl, Nat.le_refl _, ⟨[], OwnI.nil _ _, .inl (by unfold powl; rw [if_pos (.inl (Hy.out.2.1.1 (by trivial)))])⟩, Ho3.out.2⟩
    · have hyb : (y == 0) = false := by simp; exact hy0
      rcases Nat.eq_zero_or_pos n3 with hn0 | hn0
      · subst hn0
        go_wp2_with fail
        go_ret
        exact ⟨_, _, _, rfl, Nat.le_refl _, ⟨[], OwnI.nil _ _, .inl (by unfold powl; rw [HS.out, if_pos (.inr (List.eq_nil_of_length_eq_zero (by have := Hn3.out.1; omega)))])⟩, Ho3.out.2⟩
      · have hn0b : ((n3 : Int) == 0) = false := by simp; omega
        have HP := Lib.hid (parted_any Ho3.out.1.reads Hn3.out.1 Hn3.out.2.1 HL3.out.1 (by have := HL3.out.2.1; have := Hn3.out.1; omega) Hn3.out.2.2)
        go_wp2_with fail
        refine HP.out.mono ?_
        rintro e w4 ⟨Ac, cc, Av, cv, d, rfl, hrc, hrv, hcc, hcv, hcc2, hcv2, rfl⟩
        have hcl : n3 - 2 * parts S = (core S).length := by rw [core_len, ← Hn3.out.1]
        have hjl : parts S = (conj S).length := by rw [conj_len]
        rw [hcl, hjl]
        have hls := HL3.out.2.1
        have HBk := Lib.hid (back_any (w := wa.drewN d) (c := cv) (hrv.drewN d) (Nat.le_refl _) rfl (show LetL (conj S) from letl_drop HL3.out.1 _) (by rw [conj_len]; have := parts_le S; omega))
        have Hrc := Lib.hid (And.intro hrc hrv)
        have Hlen := Lib.hid (show (core S).length ≤ 4096 ∧ (conj S).length ≤ 4096 ∧ 1 ≤ (core S).length by have h1 := core_len S; have h2 := conj_len S; have h3 := parts_le S; have h4 := core_pos (l := S) HL3.out.2.2 (by have := Hn3.out.1; omega); omega)
        clear hrc hrv hcl hjl hcc hcv hcc2 hcv2 HP
        go_wp2_with fail
        refine HBk.out.mono ?_
        rintro e w5 ⟨A5, c5, rfl, ho5, hb5⟩
        have hc5 := hb5.cell (p := ⟨g1, 0, none⟩) (by show g1 < wa.heap.size; have := Blk.lt HB3.out; omega)
        have c2 : w5.cell? ⟨g1, 0, none⟩ = some (.int .i64 y) := hc5.trans c1
        have Ho5 := Lib.hid (And.intro ho5 hb5)
        clear hc5 ho5 hb5 c1 HBk
        go_upto_region 9 with fail
        go_cut [31, 32] from 30 to 32 (fun v i wx => ∃ M : Nat, v = .int .i64 (M : Int) ∧ i = .int .i64 0 ∧ M ≤ 4097 ∧ Hid ((M : Int) = y ∨ (M = 4097 ∧ 4097 ≤ y)) ∧ wx = w5)
        case first =>
          obtain ⟨M, hM⟩ : ∃ M : Nat, (M : Int) = y := ⟨y.toNat, by omega⟩
          subst hM
          by_cases hy4 : (M : Int) ≤ 4097
          · go_wp2_with fail
            all_goals (go_meet; first | exact ⟨M, rfl, rfl, by omega, Lib.hid (.inl rfl), rfl⟩ | exact ⟨4097, by congr 1; omega, rfl, by omega, Lib.hid (.inr ⟨rfl, by omega⟩), rfl⟩)
          · go_wp2_with fail
            all_goals (go_meet; exact ⟨4097, rfl, rfl, by omega, Lib.hid (.inr ⟨rfl, by omega⟩), rfl⟩)
        case rest =>
          obtain ⟨M, rfl, rfl, hM4, hM, hwe⟩ := hcut
          subst hwe
          have Hrc' := Lib.hid (show ReadsI wc wa.heap.size Ac (core S) from (Hrc.out.1.drewN d).below Ho5.out.2)
          have Hrv' := Lib.hid (show ReadsI wc wa.heap.size Av (conj S) from (Hrc.out.2.drewN d).below Ho5.out.2)
          have HMx := Lib.hid (show M ≤ x.natAbs ∧ x ≠ 0 ∧ (M = 4097 ∨ M = x.natAbs) by have h1 := hM.out; have h2 := Hy.out; have h3 : x ≠ 0 := fun h => hy0 (h2.2.1.2 h); omega)
          have hb0 : b0 ≤ wa.heap.size := by have := Blk.lt HB3.out; omega
          have hbb : Below b0 (wa.drewN d) wc := Ho5.out.2.mono hb0
          have HB := Lib.hid (show Below b0 w wc from Ho3.out.2.trans (show Below b0 wa wc from ⟨hbb.os, hbb.tape, hbb.output, hbb.size, hbb.block⟩))
          have hsz : wa.heap.size ≤ wc.heap.size := Ho5.out.2.size
          have HO5 := Lib.hid Ho5.out.1
          have hj4 : (conj S).length ≤ 4096 := Hlen.out.2.1
          have HS1 := Lib.hid (show 1 ≤ S.length by have := Hn3.out.1; omega)
          clear hM Hrc Ho5 hbb Ho3 Hy hy1 c2 hls Hn3 HB3 hyb hy0 Hx
          go_wp2_with fail
          go_loopg [6, 32] M (fun k ov iv wr => ∃ (i : Nat) (A' : Option Addr) (n' c' : Nat), ov = .slice A' n' c' ∧ iv = .int .i64 (i : Int) ∧ k = M - i ∧ i ≤ M ∧ n' ≤ 4096 ∧ Hid (OwnI wr wa.heap.size (.slice A' n' c') (inv (conj S) ++ reps i (core S)) ∧ Below wa.heap.size wc wr))
          case atStart => exact ⟨0, A5, _, c5, rfl, rfl, by omega, by omega, hj4, Lib.hid ⟨by unfold reps; rw [List.append_nil]; exact HO5.out, Below.refl _ _⟩⟩
          case round =>
            obtain ⟨i, A6, n6, c6, rfl, rfl, hk, hi, hn6, hO⟩ := hrel
            have Hk := Lib.hid hk
            clear hk
            have hlen := hO.out.1.len
            have Hlen6 := Lib.hid hlen
            have hlb : (inv (conj S) ++ reps i (core S)).length ≤ 4096 := by rw [← hlen.1]; exact hn6
            have hB0 : wa.heap.size ≤ wr.heap.size := by have := hO.out.2.size; omega
            by_cases hin : i < M
            · have hii : (i : Int) < (M : Int) := by omega
              clear hlen
              rcases Nat.lt_or_ge 4096 (inv (conj S) ++ reps i (core S) ++ core S).length with hlong | hlong
              · go_wp2_with (refine wpI_append rfl (.tmp 34) (.tmp 35) rfl wa.heap.size _ _ (core S) hO.out.1 rfl rfl rfl (Hrc'.out.below (hO.out.2.mono (by omega))) (by omega) (by have := Hlen.out.1; omega) hB0 ?_; intro A7 n7 c7 w7 ho7 hn7 hc7 hg7 hw7 hb7; have Ho7 := Lib.hid (And.intro ho7 (And.intro hc7 (hb7 _ hO.out.2))); have hn7i : (4096 : Int) < (n7 : Int) := (by have := ho7.len.1; omega); clear ho7 hn7 hc7 hg7 hw7 hb7)
                go_ret
                exact ⟨_, _, _, rfl, Ho7.out.2.1, ⟨_, Ho7.out.1.lower (by omega), powed_long HS.out HMx.out.2.1 HS1.out (by have := HMx.out.1; omega) hlong⟩, HB.out.trans (Ho7.out.2.2.mono (by omega))⟩
              · go_wp2_with (refine wpI_append rfl (.tmp 34) (.tmp 35) rfl wa.heap.size _ _ (core S) hO.out.1 rfl rfl rfl (Hrc'.out.below (hO.out.2.mono (by omega))) (by omega) (by have := Hlen.out.1; omega) hB0 ?_; intro A7 n7 c7 w7 ho7 hn7 hc7 hg7 hw7 hb7; have Ho7 := Lib.hid (And.intro ho7 (And.intro hc7 (hb7 _ hO.out.2))); have hn7i : (n7 : Int) ≤ 4096 := (by have := ho7.len.1; omega); clear ho7 hn7 hc7 hg7 hw7 hb7)
                go_roundg (M - (i + 1))
                case measure => have := Hk.out; omega
                case rel => exact ⟨i + 1, A7, n7, c7, rfl, rfl, rfl, by omega, by omega, Lib.hid ⟨by rw [reps, ← List.append_assoc]; exact Ho7.out.1, Ho7.out.2.2⟩⟩
            · have hii : (M : Int) ≤ (i : Int) := by omega
              have hiM : i = M := by omega
              subst hiM
              have Hpow := Lib.hid (powed_done HS.out HMx.out HS1.out Hlen.out.2.2 hlb)
              clear hlen
              go_wp2_with (refine wpI_append rfl (.tmp 42) (.tmp 43) rfl wa.heap.size _ _ (conj S) hO.out.1 rfl rfl rfl (Hrv'.out.below (hO.out.2.mono (by omega))) (by omega) (by have := Hlen.out.2.1; omega) hB0 ?_; intro A7 n7 c7 w7 ho7 hn7 hc7 hg7 hw7 hb7; have Ho7 := Lib.hid (And.intro ho7 (And.intro hc7 (hb7 _ hO.out.2))); clear ho7 hn7 hc7 hg7 hw7 hb7)
              go_ret
              exact ⟨_, _, _, rfl, Ho7.out.2.1, ⟨_, Ho7.out.1.lower (by omega), Hpow.out⟩, HB.out.trans (Ho7.out.2.2.mono (by omega))⟩
end Go.Proofs.YtmjnhpagoboejaaDoor

/- words.Pow: what it refuses. -/
namespace Go.Proofs.YtmjnhpagoboejaaDoor
open Go.RowKit
open Wd
set_option linter.unusedSimpArgs false
set_option linter.unusedVariables false

set_option maxRecDepth 100000 in
theorem pow_bad {w : World} {B n c : Nat} {A : Option Addr} {l : List Int} {x : Int} (hr : ReadsI w B A l) (hB : B ≤ w.heap.size) (hn : n = l.length) (hw : Wf l) (hnl : n ≤ 1000000000000) (hz : chk [l] ≠ 0) :
    Calls Tryd.prog 32 #[.slice A n c, .int .i64 x] w (fun e w' => e = .returned (.tuple #[.slice none 0 0, .int .i64 (chk [l])]) ∧ Below w.heap.size w w') := by
  subst hn
  have hb0 := ((Below.refl w.heap.size w).alloc (Nat.le_refl _) (.cells #[.slice A l.length c] 22)).alloc (by simp) (.cells #[.int .i64 x] 3)
  have hs2 : ((w.alloc (.cells #[.slice A l.length c] 22)).alloc (.cells #[.int .i64 x] 3)).heap.size = w.heap.size + 2 := by simp
  have hM := made_bad (n := 1) (c := 1) (fv := .func (.func 68) #[] #[.pointer (some ⟨w.heap.size, 0, none⟩), .pointer (some ⟨w.heap.size + 1, 0, none⟩)]) (row_one ((w.alloc (.cells #[.slice A l.length c] 22)).alloc (.cells #[.int .i64 x] 3)) (A, c, l) ((hr.alloc hB _).alloc (by simp; omega) _) (by simp; omega)) rfl (by decide) (fun r hr' => by rw [List.mem_singleton.1 hr']; exact ⟨hw, hnl⟩) hz
  rw [hs2] at hM
  have HM := Lib.hid hM
  have Hb := Lib.hid (hb0.alloc (by simp; omega) (.cells #[.slice A l.length c] 22))
  simp only [List.map_cons, List.map_nil] at HM
  generalize chk [l] = z at *
  clear hM hr hw hnl hz hb0 hs2 hB
  go_enter Tryd.func32, Tryd.ntmps32
  go_wp2_with fail
  refine HM.out.mono ?_
  rintro e w' ⟨rfl, rfl⟩
  go_wp2_with fail
  go_ret2
  exact ⟨rfl, Hb.out⟩
end Go.Proofs.YtmjnhpagoboejaaDoor

/- words.Pow. -/
namespace Go.Proofs.YtmjnhpagoboejaaDoor
open Go.RowKit
open Wd
set_option linter.unusedSimpArgs false
set_option linter.unusedVariables false

/-- a word that was made, or a refusal, for it is too long -/
def MadeOut (w : World) (L : List Int) (e : Ending) (w' : World) : Prop := Below w.heap.size w w' ∧ ((L.length ≤ 4096 ∧ ∃ A' n', e = .returned (.tuple #[.slice A' n' n', .int .i64 0]) ∧ ResI w' w.heap.size A' n' L) ∨ (4096 < L.length ∧ e = .returned (.tuple #[.slice none 0 0, .int .i64 3])))
set_option maxRecDepth 100000 in
theorem pow_ok {w : World} {B n c : Nat} {A : Option Addr} {l : List Int} {x : Int} (hr : ReadsI w B A l) (hB : B ≤ w.heap.size) (hn : n = l.length) (hx1 : -9223372036854775808 ≤ x) (hx2 : x ≤ 9223372036854775807) (hz : chk [l] = 0) :
    Calls Tryd.prog 32 #[.slice A n c, .int .i64 x] w (MadeOut w (powl l x)) := by
  obtain ⟨hw, hlen⟩ := chk_one.1 hz
  have hlet := word_let hw
  subst hn
  have hwf : Wf l := fun k hk => by have := hlet k hk; omega
  have hb0 := ((Below.refl w.heap.size w).alloc (Nat.le_refl _) (.cells #[.slice A l.length c] 22)).alloc (by simp) (.cells #[.int .i64 x] 3)
  have hs2 : ((w.alloc (.cells #[.slice A l.length c] 22)).alloc (.cells #[.int .i64 x] 3)).heap.size = w.heap.size + 2 := by simp
  have hb1 := hb0.alloc (by simp; omega) (.cells #[.slice A l.length c] 22)
  have hg1 : Blk (((w.alloc (.cells #[.slice A l.length c] 22)).alloc (.cells #[.int .i64 x] 3)).alloc (.cells #[.slice A l.length c] 22)) (w.heap.size + 1) 3 #[.int .i64 x] := by
    have h := (Blk.new (w.alloc (.cells #[.slice A l.length c] 22)) 3 #[.int .i64 x]).alloc (.cells #[.slice A l.length c] 22)
    rw [World.size_alloc] at h
    exact h
  have h1 := pow1_any (b0 := w.heap.size) (((Blk.new w 22 #[.slice A l.length c]).alloc _).alloc _) hg1 (by omega) (((hr.more hB).alloc (Nat.le_refl _) (.cells #[.slice A l.length c] 22) |>.alloc (by simp) (.cells #[.int .i64 x] 3)).alloc (by simp; omega) (.cells #[.slice A l.length c] 22)) rfl hlet (by omega) hx1 hx2
  have hM := made_ok68 (n := 1) (c := 1) (row_one ((w.alloc (.cells #[.slice A l.length c] 22)).alloc (.cells #[.int .i64 x] 3)) (A, c, l) ((hr.alloc hB _).alloc (by simp; omega) _) (by simp; omega)) rfl (by decide) (fun r hr' => by rw [List.mem_singleton.1 hr']; exact ⟨hwf, by show l.length ≤ _; omega⟩) hz
    (R := fun A' n' c' w' => (∃ L, OwnI w' w.heap.size (.slice A' n' c') L ∧ Powed l x L) ∧ Below w.heap.size w w')
    (h1.mono fun e w' ⟨A', n', c', he, hc, ho, hb⟩ => ⟨A', n', c', he, hc, ho, hb1.trans hb⟩)
  rw [hs2] at hM
  have HM := Lib.hid hM
  clear hM hr hb0 hb1 h1 hg1 hs2 hB hx1 hx2
  go_enter Tryd.func32, Tryd.ntmps32
  go_wp2_with fail
  refine HM.out.mono ?_
  rintro e w2 ⟨A2, n2, c2, ⟨⟨L, ho, hp⟩, hb⟩, hcase⟩
  have hlen2 := ho.len
  have Ho := Lib.hid (And.intro ho (And.intro hb (And.intro hp hlen2)))
  clear ho hp hb hlen2
  rcases hcase with ⟨h, rfl⟩ | ⟨h, rfl⟩
  · go_wp2_with fail
    go_ret2
    refine ⟨Ho.out.2.1, .inl ?_⟩
    have h2 := Ho.out.2.2.2
    rcases Ho.out.2.2.1 with h3 | h3
    · rw [← h3]
      exact ⟨by omega, A2, n2, rfl, h2.1, c2, Ho.out.1, h2.2.1⟩
    · exfalso; omega
  · go_wp2_with fail
    go_ret2
    refine ⟨Ho.out.2.1, .inr ⟨?_, rfl⟩⟩
    have h2 := Ho.out.2.2.2
    rcases Ho.out.2.2.1 with h3 | h3
    · rw [← h3]; omega
    · exact h3.2
end Go.Proofs.YtmjnhpagoboejaaDoor

/- words.Root (printed by gen_root.py). -/
namespace Go.Proofs.YtmjnhpagoboejaaDoor
open Go.RowKit
open Wd
set_option linter.unusedSimpArgs false
set_option linter.unusedVariables false

theorem perN_le (l : List Int) : ∀ f p, perN l f p ≤ p + f
  | 0, p => by unfold perN; omega
  | f + 1, p => by
    unfold perN
    by_cases h : l.length % p ≠ 0 ∨ l.drop p ≠ l.take (l.length - p)
    · rw [if_pos h]; have := perN_le l f (p + 1); omega
    · rw [if_neg h]; omega
theorem perN_ge (l : List Int) : ∀ f p, p ≤ perN l f p
  | 0, p => by unfold perN; omega
  | f + 1, p => by
    unfold perN
    by_cases h : l.length % p ≠ 0 ∨ l.drop p ≠ l.take (l.length - p)
    · rw [if_pos h]; have := perN_ge l f (p + 1); omega
    · rw [if_neg h]; omega
theorem per_le {l : List Int} (h : 1 ≤ l.length) : 1 ≤ per l ∧ per l ≤ l.length := by
  have h1 := perN_le l (l.length - 1) 1
  have h2 := perN_ge l (l.length - 1) 1
  unfold per
  omega
/-- the root of a word -/
def rootw (l : List Int) : List Int := inv (conj (short l)) ++ (core (short l)).take (per (core (short l))) ++ conj (short l)
set_option maxRecDepth 100000 in
set_option maxHeartbeats 2000000 in
theorem root_ok {w : World} {B n c : Nat} {A : Option Addr} {l : List Int} (hr : ReadsI w B A l) (hB : B ≤ w.heap.size) (hn : n = l.length) (hz : chk [l] = 0) (h0 : core (short l) ≠ []) :
    Calls Tryd.prog 18 #[.slice A n c] w (fun e w' => ∃ A' n' c' q, e = .returned (.tuple #[.slice A' n' c', .int .i64 ((q : Nat) : Int), .int .i64 0]) ∧ q = (core (short l)).length / per (core (short l)) ∧ OwnI w' w.heap.size (.slice A' n' c') (rootw l) ∧ Below w.heap.size w w') := by
  have hl1 := (chk_one.1 hz)
  have hlet := letl_short (word_let hl1.1)
  have hls := short_len_le l
  have hpos : 1 ≤ (core (short l)).length := by rcases Nat.eq_zero_or_pos (core (short l)).length with h | h; exact absurd (List.eq_nil_of_length_eq_zero h) h0; exact h
  have HC := Lib.hid (core_ok (c := c) hr hB hn hz)
  have Hl := Lib.hid (And.intro hlet (And.intro (show (short l).length ≤ 4096 by have := hl1.2; omega) hpos))
  clear hr hB hn hz h0 hl1 hlet hls hpos
  go_enter Tryd.func18, Tryd.ntmps18
  go_wp2_with fail
  refine HC.out.mono ?_
  rintro e w3 ⟨A1, c1, A2, c2, rfl, ho1, ho2, hb⟩
  have Hb := Lib.hid hb
  have Ho := Lib.hid (And.intro ho1 ho2)
  have hcl := core_len (short l)
  have hjl := conj_len (short l)
  have hcpos : ((core (short l)).length : Int) ≠ 0 := by have := Hl.out.2.2; omega
  have HP := Lib.hid (period_any ho1.reads rfl Hl.out.2.2 ho1.len.2.1 (by have := Hl.out.2; omega) ho1.len.2.2)
  clear hb ho1 ho2 hcl hjl
  go_wp2_with fail
  refine HP.out.mono ?_
  rintro e w4 ⟨d, rfl, hd⟩
  have hb4 : Below w.heap.size w w4 := by rw [← hd]; exact ⟨Hb.out.os, Hb.out.tape, Hb.out.output, Hb.out.size, Hb.out.block⟩
  have o1 : OwnI w4 w.heap.size (.slice A1 (core (short l)).length c1) (core (short l)) := by rw [← hd]; exact Ho.out.1.drewN d
  have o2 : OwnI w4 w.heap.size (.slice A2 (conj (short l)).length c2) (conj (short l)) := by rw [← hd]; exact Ho.out.2.drewN d
  have hpp := per_le Hl.out.2.2
  obtain ⟨p, hp⟩ : ∃ p, per (core (short l)) = p := ⟨_, rfl⟩
  rw [hp] at hpp ⊢
  have hcl := core_len (short l)
  have hjl := conj_len (short l)
  have hple := parts_le (short l)
  have hlen := Hl.out.2.1
  have r1 := o1.reads
  obtain ⟨ad, hA, hx2, hx3⟩ := r1.at_ (k := 0) Hl.out.2.2
  subst hA
  clear hx2 hx3
  have rt : ReadsI w4 w4.heap.size (some ad) ((core (short l)).take p) := ReadsI.take (m := (core (short l)).drop p) (by rw [List.take_append_drop]; exact r1)
  have hc1 := o1.len
  have HO := Lib.hid (And.intro hb4 (And.intro hp (And.intro o2.reads (And.intro (show LetL (conj (short l)) from letl_drop Hl.out.1 _) (And.intro (show (conj (short l)).length ≤ 1000000000 by omega) (show (conj (short l)).length ≤ 100000000 by omega))))))
  have HT := Lib.hid (And.intro rt (And.intro (show p = ((core (short l)).take p).length by rw [List.length_take]; omega) (And.intro (show (inv (conj (short l))).length ≤ 1000000000 by rw [inv_length]; omega) (And.intro (show ((core (short l)).take p).length ≤ 1000000000 by rw [List.length_take]; omega) (show (inv (conj (short l)) ++ (core (short l)).take p).length ≤ 1000000000 by rw [List.length_append, inv_length, List.length_take]; omega)))))
  obtain ⟨q, hq⟩ : ∃ q, q = (core (short l)).length / p := ⟨_, rfl⟩
  have htd : Int.tdiv ((core (short l)).length : Int) (p : Int) = (q : Int) := by rw [hq]; rfl
  have hqle : q ≤ (core (short l)).length := by rw [hq]; exact Nat.div_le_self _ _
  have hqw : IntKind.i64.wrap (q : Int) = (q : Int) := by rw [IntKind.wrap_i64]; omega
  have Hq := Lib.hid hq
  have hp0 : ¬ p = 0 := by omega
  have hc0 : ¬ c1 = 0 := by omega
  have hpc : (p : Int) ≤ (c1 : Int) := by omega
  clear hb4 o1 o2 hp hcl hjl hple hlen r1 rt hq hqle hpp hc1 hcpos hd
  go_wp2_with fail
  refine wp_region_noPanic ?_
  refine wp_region_held_drew (S := fun w' => Below w4.heap.size w4 w') (by kernel_rfl) (Below.refl _ _).drew (fun hHeld => ?_)
  have b0 : Below w4.heap.size w4 w4.drew := hHeld
  refine wpAnyH_take (i := 0) (oi := Oper.mk (some 24) _ _ _ _ _) (v := ?_) rfl (by kernel_rfl) (by kernel_rfl) (by kernel_rfl) (fun _ _ _ h => h) (Or.inl ⟨by rfl, ?_⟩) (by assumption) ?_
  rotate_left
  · (intro w' hSw; (try dsimp only at hSw); go_simp; try with_reducible rfl)
  try simp only [Act.put, List.setIfInBounds_toArray, List.set_cons_zero, List.set_cons_succ]
  refine wpAnyH_take (i := 2) (oi := Oper.mk (some 26) _ _ _ _ _) (v := ?_) rfl (by kernel_rfl) (by kernel_rfl) (by kernel_rfl) (fun _ _ _ h => h) (Or.inl ⟨by rfl, ?_⟩) (by assumption) ?_
  rotate_left
  · (intro w' hSw; (try dsimp only at hSw); go_simp; try with_reducible rfl)
  try simp only [Act.put, List.setIfInBounds_toArray, List.set_cons_zero, List.set_cons_succ]
  refine wpAnyH_take (i := 3) (oi := Oper.mk (some 27) _ _ _ _ _) (v := ?_) rfl (by kernel_rfl) (by kernel_rfl) (by kernel_rfl) (fun _ _ _ h => h) (Or.inl ⟨by rfl, ?_⟩) (by assumption) ?_
  rotate_left
  · (intro w' hSw; (try dsimp only at hSw); go_simp; try with_reducible rfl)
  try simp only [Act.put, List.setIfInBounds_toArray, List.set_cons_zero, List.set_cons_succ]
  refine wpAnyH_take (i := 4) (oi := Oper.mk (some 28) _ _ _ _ _) (v := ?_) rfl (by kernel_rfl) (by kernel_rfl) (by kernel_rfl) (fun _ _ _ h => h) (Or.inl ⟨by rfl, ?_⟩) (by assumption) ?_
  rotate_left
  · (intro w' hSw; (try dsimp only at hSw); go_simp; try with_reducible rfl)
  try simp only [Act.put, List.setIfInBounds_toArray, List.set_cons_zero, List.set_cons_succ]
  refine wpAnyH_take (i := 6) (oi := Oper.mk (some 30) _ _ _ _ _) (v := ?_) rfl (by kernel_rfl) (by kernel_rfl) (by kernel_rfl) (fun _ _ _ h => h) (Or.inl ⟨by rfl, ?_⟩) (by assumption) ?_
  rotate_left
  · (intro w' hSw; (try dsimp only at hSw); go_simp; try with_reducible rfl)
  try simp only [Act.put, List.setIfInBounds_toArray, List.set_cons_zero, List.set_cons_succ]
  refine wpAnyH_take (i := 8) (oi := Oper.mk (some 32) _ _ _ _ _) (v := ?_) rfl (by kernel_rfl) (by kernel_rfl) (by kernel_rfl) (fun _ _ _ h => h) (Or.inl ⟨by rfl, ?_⟩) (by assumption) ?_
  rotate_left
  · (intro w' hSw; (try dsimp only at hSw); go_simp; try with_reducible rfl)
  try simp only [Act.put, List.setIfInBounds_toArray, List.set_cons_zero, List.set_cons_succ]
  refine wpAnyH_take (i := 9) (oi := Oper.mk (some 33) _ _ _ _ _) (v := ?_) rfl (by kernel_rfl) (by kernel_rfl) (by kernel_rfl) (fun _ _ _ h => h) (Or.inl ⟨by rfl, ?_⟩) (by assumption) ?_
  rotate_left
  · (intro w' hSw; (try dsimp only at hSw); go_simp; try with_reducible rfl)
  try simp only [Act.put, List.setIfInBounds_toArray, List.set_cons_zero, List.set_cons_succ]
  refine wpAnyH_take (i := 10) (oi := Oper.mk (some 34) _ _ _ _ _) (v := ?_) rfl (by kernel_rfl) (by kernel_rfl) (by kernel_rfl) (fun _ _ _ h => h) (Or.inl ⟨by rfl, ?_⟩) (by assumption) ?_
  rotate_left
  · (intro w' hSw; (try dsimp only at hSw); go_simp; try with_reducible rfl)
  try simp only [Act.put, List.setIfInBounds_toArray, List.set_cons_zero, List.set_cons_succ]
  refine wpAnyH_take (i := 11) (oi := Oper.mk (some 35) _ _ _ _ _) (v := ?_) rfl (by kernel_rfl) (by kernel_rfl) (by kernel_rfl) (fun _ _ _ h => h) (Or.inl ⟨by rfl, ?_⟩) (by assumption) ?_
  rotate_left
  · (intro w' hSw; (try dsimp only at hSw); go_simp; try with_reducible rfl)
  try simp only [Act.put, List.setIfInBounds_toArray, List.set_cons_zero, List.set_cons_succ]
  refine wpAnyH_ready (rs := [1]) (by kernel_rfl) (by simp) ?_
  refine AllReadyH.cons (o := Oper.mk (some 25) _ _ _ _ _) rfl (fun K hK => ?_) AllReadyH.nil
  go_simp
  refine (back_any (c := c2) (HO.out.2.2.1.below b0) b0.size rfl HO.out.2.2.2.1 HO.out.2.2.2.2.2).mono ?_
  rintro e w5 ⟨A5, c5, rfl, ho5', hb5⟩
  try simp only []
  have b5 : Below w4.heap.size w4 w5 := Below.trans b0 (hb5.mono b0.size)
  have ho5 : OwnI w5 w4.heap.size (.slice A5 (conj (short l)).length c5) (inv (conj (short l))) := ho5'.lower b0.size
  clear hb5 ho5'
  refine hK.out _ _ b5 (fun _ => ?_)
  clear hK K hHeld
  have hHeld := b5
  try simp only [Act.put, List.setIfInBounds_toArray, List.set_cons_zero, List.set_cons_succ]
  refine wpAnyH_ready (rs := [5]) (by kernel_rfl) (by simp) ?_
  refine AllReadyH.cons (o := Oper.mk (some 29) _ _ _ _ _) rfl (fun K hK => ?_) AllReadyH.nil
  refine stepI_append (by rfl) (.tmp 25) (.tmp 28) (by rfl) w4.heap.size _ (inv (conj (short l))) ho5 (by rfl) _ _ _ (HT.out.1.below b5) _ _ HT.out.2.1 (by rfl) HT.out.2.2.1 HT.out.2.2.2.1 b5.size ?_
  intro A6 n6 c6 w6 ho6 hg6
  have b6 : Below w4.heap.size w4 w6 := Below.grown b5 hg6 b5.size (fun k hk => (ho5.lt k hk).1)
  refine hK.out _ _ b6 (fun _ => ?_)
  clear hK K hHeld
  have hHeld := b6
  try simp only [Act.put, List.setIfInBounds_toArray, List.set_cons_zero, List.set_cons_succ]
  refine wpAnyH_ready (rs := [7]) (by kernel_rfl) (by simp) ?_
  refine AllReadyH.cons (o := Oper.mk (some 31) _ _ _ _ _) rfl (fun K hK => ?_) AllReadyH.nil
  refine stepI_append (by rfl) (.tmp 29) (.tmp 30) (by rfl) w4.heap.size _ (inv (conj (short l)) ++ (core (short l)).take p) ho6 (by rfl) _ _ _ (HO.out.2.2.1.below b6) _ _ rfl (by rfl) HT.out.2.2.2.2 HO.out.2.2.2.2.1 b6.size ?_
  intro A7 n7 c7 w7 ho7 hg7
  have b7 : Below w4.heap.size w4 w7 := Below.grown b6 hg7 b6.size (fun k hk => (ho6.lt k hk).1)
  refine hK.out _ _ b7 (fun _ => ?_)
  clear hK K hHeld
  have hHeld := b7
  try simp only [Act.put, List.setIfInBounds_toArray, List.set_cons_zero, List.set_cons_succ]
  refine wpAnyH_take (i := 12) (oi := Oper.mk (some 2) _ _ _ _ _) (v := ?_) rfl (by kernel_rfl) (by kernel_rfl) (by kernel_rfl) (fun _ _ _ h => h) (Or.inl ⟨by rfl, ?_⟩) (by assumption) ?_
  rotate_left
  · (intro w' hSw; (try dsimp only at hSw); go_simp; try with_reducible rfl)
  try simp only [Act.put, List.setIfInBounds_toArray, List.set_cons_zero, List.set_cons_succ]
  refine wpAnyH_take (i := 13) (oi := Oper.mk (some 3) _ _ _ _ _) (v := ?_) rfl (by kernel_rfl) (by kernel_rfl) (by kernel_rfl) (fun _ _ _ h => h) (Or.inl ⟨by rfl, ?_⟩) (by assumption) ?_
  rotate_left
  · (intro w' hSw; (try dsimp only at hSw); go_simp; try with_reducible rfl)
  try simp only [Act.put, List.setIfInBounds_toArray, List.set_cons_zero, List.set_cons_succ]
  refine wpAnyH_take (i := 14) (oi := Oper.mk (some 4) _ _ _ _ _) (v := ?_) rfl (by kernel_rfl) (by kernel_rfl) (by kernel_rfl) (fun _ _ _ h => h) (Or.inl ⟨by rfl, ?_⟩) (by assumption) ?_
  rotate_left
  · (intro w' hSw; (try dsimp only at hSw); go_simp; try with_reducible rfl)
  try simp only [Act.put, List.setIfInBounds_toArray, List.set_cons_zero, List.set_cons_succ]
  refine wpAnyH_done (by kernel_rfl) ?_ _
  refine NoPanic.normal ?_
  go_wp2_with fail
  go_ret3
  exact ⟨A7, n7, c7, q, rfl, by rw [HO.out.2.1]; exact Hq.out, by unfold rootw; rw [HO.out.2.1]; exact ho7.lower HO.out.1.size, HO.out.1.trans (b7.mono HO.out.1.size)⟩
end Go.Proofs.YtmjnhpagoboejaaDoor
