import Derived.Test.YtmjnhpagoboejaaDoorC5
import Derived.BigQuiet
/- words.Cmp, ref.Cmp. -/
namespace Go.Proofs.YtmjnhpagoboejaaDoor
open Go.RowKit
open Wd
set_option linter.unusedSimpArgs false
set_option linter.unusedVariables false

def placeZ (k : Int) : Int := if k < 0 then -2 * k - 1 else 2 * k - 2
def cmp1 (a b : Int) : Int := if placeZ a < placeZ b then -1 else if placeZ b < placeZ a then 1 else 0
def cmpL : List Int → List Int → Int
  | a :: v, b :: w => if cmp1 a b = 0 then cmpL v w else cmp1 a b
  | _, _ => 0
theorem ret_i {a b : Int} (h : a = b) : Ending.returned (.int .i64 a) = .returned (.int .i64 b) := by rw [h]
set_option maxRecDepth 100000 in
theorem place_any {w : World} {k : Int} (h1 : -64 ≤ k) (h2 : k ≤ 64) : Calls Tryd.prog 80 #[.int .i64 k] w (fun e w' => e = .returned (.int .i64 (placeZ k)) ∧ w = w') := by
  by_cases h : k < 0
  · have Hp := Lib.hid (show placeZ k = -2 * k - 1 by unfold placeZ; rw [if_pos h])
    go_enter Tryd.func80, Tryd.ntmps80
    go_wp2
    go_ret
    exact ⟨ret_i (by rw [Hp.out]), rfl⟩
  · have Hp := Lib.hid (show placeZ k = 2 * k - 2 by unfold placeZ; rw [if_neg h])
    go_enter Tryd.func80, Tryd.ntmps80
    go_wp2
    go_ret
    exact ⟨ret_i (by rw [Hp.out]), rfl⟩
set_option maxRecDepth 100000 in
theorem rplace_any {w : World} {k : Int} (h0 : k ≠ 0) (h1 : -64 ≤ k) (h2 : k ≤ 64) : Calls Tryd.prog 75 #[.int .i64 k] w (fun e w' => e = .returned (.int .i64 (placeZ k)) ∧ w = w') := by
  by_cases h : 0 < k
  · have Hp := Lib.hid (show placeZ k = 2 * k - 2 by unfold placeZ; rw [if_neg (by omega)])
    clear h0
    go_enter Tryd.func75, Tryd.ntmps75
    go_wp2
    go_ret
    exact ⟨ret_i (by rw [Hp.out]), rfl⟩
  · have Hp := Lib.hid (show placeZ k = -2 * k - 1 by unfold placeZ; rw [if_pos (by omega)])
    clear h0
    go_enter Tryd.func75, Tryd.ntmps75
    go_wp2
    go_ret
    exact ⟨ret_i (by rw [Hp.out]), rfl⟩
theorem placeZ_bd {k : Int} (h1 : -64 ≤ k) (h2 : k ≤ 64) : -1000 ≤ placeZ k ∧ placeZ k ≤ 1000 := by unfold placeZ; split <;> omega
set_option maxRecDepth 100000 in
theorem cmp1_any {w : World} {a b : Int} (ha : -64 ≤ a ∧ a ≤ 64) (hb : -64 ≤ b ∧ b ≤ 64) : Calls Tryd.prog 79 #[.int .i64 a, .int .i64 b] w (fun e w' => e = .returned (.int .i64 (cmp1 a b)) ∧ w = w') := by
  have HA := Lib.hid (place_any (w := w) ha.1 ha.2)
  have HB := Lib.hid (place_any (w := w) hb.1 hb.2)
  have h1 := placeZ_bd ha.1 ha.2
  have h2 := placeZ_bd hb.1 hb.2
  have Hc := Lib.hid (show cmp1 a b = max (-1) (min 1 (placeZ a - placeZ b)) by unfold cmp1; split <;> (try split) <;> omega)
  generalize placeZ a = p at *
  generalize placeZ b = q at *
  obtain ⟨h3, h4⟩ := h1
  obtain ⟨h5, h6⟩ := h2
  clear ha hb
  go_enter Tryd.func79, Tryd.ntmps79
  go_wp2_with fail
  refine HA.out.mono ?_
  rintro e w' ⟨rfl, rfl⟩
  go_wp2_with fail
  refine HB.out.mono ?_
  rintro e w' ⟨rfl, rfl⟩
  go_wp2_with fail
  all_goals (go_ret; exact ⟨ret_i (by rw [Hc.out]; try omega), rfl⟩)
theorem cmpL_step {v w : List Int} {i : Nat} (h1 : i < v.length) (h2 : i < w.length) : cmpL (v.drop i) (w.drop i) = if cmp1 v[i] w[i] = 0 then cmpL (v.drop (i + 1)) (w.drop (i + 1)) else cmp1 v[i] w[i] := by
  rw [List.drop_eq_getElem_cons h1, List.drop_eq_getElem_cons h2, cmpL]
set_option maxRecDepth 100000 in
set_option maxHeartbeats 2000000 in
theorem compareFunc_any {w : World} {B n c cw : Nat} {A Aw : Option Addr} {v u : List Int} (hr : ReadsI w B A v) (hr' : ReadsI w B Aw u) (hn : n = v.length) (hn' : n = u.length) (hb : n ≤ 1000000000) (hv : LetL v) (hu : LetL u) :
    Calls Tryd.prog 81 #[.slice A n c, .slice Aw n cw, .func (.func 79) #[] #[]] w (fun e w' => e = .returned (.int .i64 (cmpL v u)) ∧ w = w') := by
  have Hn := Lib.hid hn
  have Hn' := Lib.hid hn'
  have Hr := Lib.hid (And.intro hr hr')
  have Hl := Lib.hid (And.intro hv hu)
  obtain ⟨R, hR⟩ : ∃ R, R = cmpL v u := ⟨_, rfl⟩
  have HR := Lib.hid hR
  rw [← hR]
  clear hr hr' hn hn' hv hu hR
  go_enter Tryd.func81, Tryd.ntmps81
  go_wp2_with fail
  go_loopg [13] n (fun k iv wr => ∃ i : Nat, iv = .int .i64 (i : Int) ∧ k = n - i ∧ i ≤ n ∧ w = wr ∧ Hid (cmpL (v.drop i) (u.drop i) = R))
  case atStart => exact ⟨0, rfl, by omega, by omega, rfl, Lib.hid (by rw [List.drop_zero, List.drop_zero]; exact HR.out.symm)⟩
  case round =>
    obtain ⟨i, rfl, hk, hi, rfl, ht⟩ := hrel
    have Hk := Lib.hid hk
    clear hk
    by_cases hin : i < n
    · have hil : i < v.length := by rw [← Hn.out]; exact hin
      have hjl : i < u.length := by rw [← Hn'.out]; exact hin
      obtain ⟨ad, rfl, hb1, c0⟩ := Hr.out.1.at_ hil
      obtain ⟨ad2, rfl, hb2, d0⟩ := Hr.out.2.at_ hjl
      have hx := Hl.out.1 v[i] (List.getElem_mem hil)
      have hy := Hl.out.2 u[i] (List.getElem_mem hjl)
      have hst := cmpL_step hil hjl
      rw [ht.out] at hst
      have Hst := Lib.hid hst
      have hii : (i : Int) < (n : Int) := by omega
      have HC := Lib.hid (cmp1_any (w := w) hx.2 hy.2)
      generalize v[i] = x at *
      generalize u[i] = y at *
      generalize cmp1 x y = z at *
      clear hb1 hb2 hil hjl hx hy hst
      by_cases hz : z = 0
      · have Hnx := Lib.hid (show cmpL (v.drop (i + 1)) (u.drop (i + 1)) = R by rw [Hst.out, if_pos hz])
        have hzb : (z != 0) = false := by rw [hz]; rfl
        clear hz
        go_wp2_with fail
        refine HC.out.mono ?_
        rintro e w' ⟨rfl, rfl⟩
        go_wp2_with fail
        go_roundg (n - (i + 1))
        case measure => have := Hk.out; omega
        case rel => exact ⟨i + 1, rfl, rfl, by omega, rfl, Hnx⟩
      · have Hnx := Lib.hid (show R = z by rw [Hst.out, if_neg hz])
        have hzb : (z != 0) = true := by simp; exact hz
        clear hz
        go_wp2_with fail
        refine HC.out.mono ?_
        rintro e w' ⟨rfl, rfl⟩
        go_wp2_with fail
        go_ret
        exact ⟨ret_i Hnx.out.symm, rfl⟩
    · have hii : (n : Int) ≤ (i : Int) := by omega
      have Hend := Lib.hid (show R = 0 by rw [← ht.out, List.drop_of_length_le (by have := Hn.out; omega)]; rfl)
      have hnn : ¬ (n : Int) < (n : Int) := by omega
      go_wp2_with fail
      go_ret
      exact ⟨ret_i Hend.out.symm, rfl⟩
/-- the order of words -/
def cmpW (v u : List Int) : Int := if v.length = u.length then cmpL v u else if v.length < u.length then -1 else 1
theorem chk_two' (a b : List Int) : chk [a, b] = if isWord a && isWord b then (if tooLong a || tooLong b then 3 else 0) else 2 := by
  unfold chk
  simp
/-- what a question on two words is answered -/
def AskOut (w : World) (v : Value) (z : Int) (e : Ending) (w' : World) : Prop := e = .returned (.tuple #[v, .int .i64 z]) ∧ Below w.heap.size w w'
set_option maxRecDepth 100000 in
set_option maxHeartbeats 2000000 in
theorem wcmp_out {w : World} {B na ca nb cb : Nat} {Aa Ab : Option Addr} {a b : List Int} (hra : ReadsI w B Aa a) (hrb : ReadsI w B Ab b) (hB : B ≤ w.heap.size) (hna : na = a.length) (hnb : nb = b.length) (hwa : Wf a) (hwb : Wf b) (hla : na ≤ 100000000) (hlb : nb ≤ 100000000) :
    Calls Tryd.prog 44 #[.slice Aa na ca, .slice Ab nb cb] w (AskOut w (.int .i64 (if chk [a, b] = 0 then cmpW a b else 0)) (chk [a, b])) := by
  have h2 := rows_lit w [(Aa, ca, a), (Ab, cb, b)] (B := B) (fun r hr => by
    simp only [List.mem_cons, List.mem_nil_iff, or_false] at hr
    rcases hr with rfl | rfl
    · exact hra
    · exact hrb) hB
  have hall : ∀ r ∈ [((Aa, ca, a) : SRow), (Ab, cb, b)], Wf r.2.2 ∧ r.2.2.length ≤ 1000000000000 := fun r hr => by
    simp only [List.mem_cons, List.mem_nil_iff, or_false] at hr
    rcases hr with rfl | rfl
    · exact ⟨hwa, by show a.length ≤ _; omega⟩
    · exact ⟨hwb, by show b.length ≤ _; omega⟩
  have HC := Lib.hid (show Calls Tryd.prog 57 #[.slice (some ⟨w.heap.size, 0, none⟩) 2 2] (w.alloc (.cells #[.slice Aa na ca, .slice Ab nb cb] 22)) (fun e w' => e = .returned (.int .i64 (chk [a, b])) ∧ w.alloc (.cells #[.slice Aa na ca, .slice Ab nb cb] 22) = w') by
    rw [hna, hnb]; exact check_any (c := 2) (n := 2) h2 rfl (by decide) hall)
  have HB0 := Lib.hid ((Below.refl w.heap.size w).alloc (Nat.le_refl _) (.cells #[.slice Aa na ca, .slice Ab nb cb] 22))
  clear h2 hall
  by_cases hz : chk [a, b] = 0
  · rw [if_pos hz]
    rw [hz] at HC ⊢
    have hlets := chk_words hz
    have HF := Lib.hid (fun (cw cu : Nat) (he : na = nb) => compareFunc_any (w := w.alloc (.cells #[.slice Aa na ca, .slice Ab nb cb] 22)) (c := cw) (cw := cu) (hra.alloc hB _) (hrb.alloc hB _) hna (by rw [he]; exact hnb) (by omega) (hlets a (by simp)).1 (hlets b (by simp)).1)
    have Hn := Lib.hid (And.intro hna hnb)
    clear hra hrb hB hna hnb hwa hwb hz hlets
    by_cases he : na = nb
    · have HFe := Lib.hid (HF.out ca cb he)
      have Hres := Lib.hid (show cmpW a b = cmpL a b by unfold cmpW; rw [if_pos (by have := Hn.out; omega)])
      have hbe : ((na : Int) != (nb : Int)) = false := by simp; omega
      clear HF
      subst he
      rw [Hres.out]
      generalize cmpL a b = z at *
      go_enter Tryd.func44, Tryd.ntmps44
      go_wp2_with fail
      refine HC.out.mono ?_
      rintro e w' ⟨rfl, rfl⟩
      go_wp2_with fail
      refine HFe.out.mono ?_
      rintro e w' ⟨rfl, rfl⟩
      go_wp2_with fail
      go_ret2
      exact ⟨rfl, HB0.out⟩
    · have Hres := Lib.hid (show cmpW a b = max (-1) (min 1 ((na : Int) - (nb : Int))) by unfold cmpW; rw [if_neg (by have := Hn.out; omega)]; split <;> (have := Hn.out; omega))
      have hbe : ((na : Int) != (nb : Int)) = true := by simp; omega
      clear HF
      generalize cmpW a b = z at *
      go_enter Tryd.func44, Tryd.ntmps44
      go_wp2_with fail
      refine HC.out.mono ?_
      rintro e w' ⟨rfl, rfl⟩
      go_wp2_with fail
      all_goals (
        go_ret2
        exact ⟨by rw [Hres.out]; first | rfl | (congr 4; omega), HB0.out⟩)
  · rw [if_neg hz]
    generalize chk [a, b] = z at *
    have hzb : (z != 0) = true := by simp; exact hz
    clear hra hrb hB hna hnb hwa hwb hz
    go_enter Tryd.func44, Tryd.ntmps44
    go_wp2_with fail
    refine HC.out.mono ?_
    rintro e w' ⟨rfl, rfl⟩
    go_wp2_with fail
    go_ret2
    exact ⟨rfl, HB0.out⟩
theorem rplace_q {w : World} {k : Int} (h0 : k ≠ 0) (h1 : -64 ≤ k) (h2 : k ≤ 64) (d : Nat) : ∀ q, Calls Tryd.prog 75 #[.int .i64 k] (w.drewN (d + q)) (fun e w' => e = .returned (.int .i64 (placeZ k)) ∧ ∃ m, w' = w.drewN (d + m)) := fun q =>
  (rplace_any h0 h1 h2).mono fun e w' ⟨he, hw⟩ => ⟨he, q, hw.symm⟩
set_option maxRecDepth 100000 in
set_option maxHeartbeats 4000000 in
theorem rcmp_any {w : World} {B na ca nb cb : Nat} {Aa Ab : Option Addr} {a b : List Int} (hra : ReadsI w B Aa a) (hrb : ReadsI w B Ab b) (hna : na = a.length) (hnb : nb = b.length) (hva : LetL a) (hvb : LetL b) (hla : na ≤ 100000000) (hlb : nb ≤ 100000000) :
    Calls Tryd.prog 48 #[.slice Aa na ca, .slice Ab nb cb] w (fun e w' => e = .returned (.int .i64 (cmpW a b)) ∧ Below w.heap.size w w') := by
  have Hn := Lib.hid hna
  have Hn' := Lib.hid hnb
  by_cases he : na = nb
  · have Hr := Lib.hid (And.intro hra hrb)
    have Hl := Lib.hid (And.intro hva hvb)
    have hcw : cmpW a b = cmpL a b := by unfold cmpW; rw [if_pos (by omega)]
    rw [hcw]
    obtain ⟨R, hR⟩ : ∃ R, R = cmpL a b := ⟨_, rfl⟩
    have HR := Lib.hid hR
    rw [← hR]
    have hbe : ((na : Int) != (nb : Int)) = false := by simp; omega
    clear hra hrb hna hnb hva hvb hR hcw
    subst he
    go_enter Tryd.func48, Tryd.ntmps48
    go_wp2_with fail
    go_loopg [5] na (fun k iv wr => ∃ (i d : Nat), iv = .int .i64 (i : Int) ∧ k = na - i ∧ i ≤ na ∧ Hid (w.drewN d = wr) ∧ Hid (cmpL (a.drop i) (b.drop i) = R))
    case atStart => exact ⟨0, 0, rfl, by omega, by omega, Lib.hid rfl, Lib.hid (by rw [List.drop_zero, List.drop_zero]; exact HR.out.symm)⟩
    case round =>
      obtain ⟨i, d, rfl, hk, hi, hwe, ht⟩ := hrel
      have Hk := Lib.hid hk
      have hwe := hwe.out
      subst hwe
      clear hk
      by_cases hin : i < na
      · have hil : i < a.length := by rw [← Hn.out]; exact hin
        have hjl : i < b.length := by rw [← Hn'.out]; exact hin
        obtain ⟨ad, rfl, hb1, c0⟩ := Hr.out.1.at_ hil
        obtain ⟨ad2, rfl, hb2, d0⟩ := Hr.out.2.at_ hjl
        have hx := Hl.out.1 a[i] (List.getElem_mem hil)
        have hy := Hl.out.2 b[i] (List.getElem_mem hjl)
        have hst := cmpL_step hil hjl
        rw [ht.out] at hst
        have Hst := Lib.hid hst
        have hii : (i : Int) < (na : Int) := by omega
        generalize a[i] = x at *
        generalize b[i] = y at *
        have HX := Lib.hid (fun d : Nat => rplace_q (w := w) hx.1 hx.2.1 hx.2.2 d)
        have HY := Lib.hid (fun d : Nat => rplace_q (w := w) hy.1 hy.2.1 hy.2.2 d)
        have Hc := Lib.hid (show cmp1 x y = if placeZ x < placeZ y then -1 else if placeZ y < placeZ x then 1 else 0 from rfl)
        generalize placeZ x = p at *
        generalize placeZ y = r at *
        generalize cmp1 x y = z at *
        clear hb1 hb2 hil hjl hx hy hst
        by_cases h1 : p < r
        · have Hres := Lib.hid (show R = -1 by rw [Hst.out, Hc.out, if_pos h1, if_neg (by decide)])
          have hd1 : decide (p < r) = true := by simpa using h1
          go_wp2_with (go_quiet ((go_at_call 75; (first | (with_reducible exact HX.out _ _) | (with_reducible exact HY.out _ _)))))
          go_ret
          exact ⟨ret_i Hres.out.symm, bdrew (Below.refl _ _) _⟩
        · have hd1 : decide (p < r) = false := by simpa using h1
          by_cases h2 : r < p
          · have Hres := Lib.hid (show R = 1 by rw [Hst.out, Hc.out, if_neg h1, if_pos h2, if_neg (by decide)])
            have hd2 : decide (r < p) = true := by simpa using h2
            go_wp2_with (go_quiet ((go_at_call 75; (first | (with_reducible exact HX.out _ _) | (with_reducible exact HY.out _ _)))))
            go_ret
            exact ⟨ret_i Hres.out.symm, bdrew (Below.refl _ _) _⟩
          · have Hnx := Lib.hid (show cmpL (a.drop (i + 1)) (b.drop (i + 1)) = R by rw [Hst.out, Hc.out, if_neg h1, if_neg h2, if_pos rfl])
            have hd2 : decide (r < p) = false := by simpa using h2
            go_wp2_with (go_quiet ((go_at_call 75; (first | (with_reducible exact HX.out _ _) | (with_reducible exact HY.out _ _)))))
            go_roundg (na - (i + 1))
            case measure => have := Hk.out; omega
            case rel => exact ⟨i + 1, _, rfl, rfl, by omega, Lib.hid rfl, Hnx⟩
      · have hii : (na : Int) ≤ (i : Int) := by omega
        have Hend := Lib.hid (show R = 0 by rw [← ht.out, List.drop_of_length_le (by have := Hn.out; omega)]; rfl)
        go_wp2_with fail
        go_ret
        exact ⟨ret_i Hend.out.symm, bdrew (Below.refl _ _) _⟩
  · have hbe : ((na : Int) != (nb : Int)) = true := by simp; omega
    by_cases hlt : na < nb
    · have Hres := Lib.hid (show cmpW a b = -1 by unfold cmpW; rw [if_neg (by omega), if_pos (by omega)])
      have hlti : (na : Int) < (nb : Int) := by omega
      clear hra hrb hna hnb hva hvb he hlt
      go_enter Tryd.func48, Tryd.ntmps48
      go_wp2_with fail
      go_ret
      exact ⟨ret_i Hres.out.symm, Below.refl _ _⟩
    · have Hres := Lib.hid (show cmpW a b = 1 by unfold cmpW; rw [if_neg (by omega), if_neg (by omega)])
      have hlti : (nb : Int) ≤ (na : Int) := by omega
      clear hra hrb hna hnb hva hvb he hlt
      go_enter Tryd.func48, Tryd.ntmps48
      go_wp2_with fail
      go_ret
      exact ⟨ret_i Hres.out.symm, Below.refl _ _⟩
end Go.Proofs.YtmjnhpagoboejaaDoor

/- ref.Conj, Pow. -/
namespace Go.Proofs.YtmjnhpagoboejaaDoor
open Go.RowKit
open Wd
set_option linter.unusedSimpArgs false
set_option linter.unusedVariables false

theorem short_nil_of {u v : List Int} (hu : Nz u) (hv : Nz v) (h : short (u ++ v) = []) (w : List Int) (hw : Nz w) : short (u ++ v ++ w) = short w := by
  rw [short_app, h]
  rfl
theorem short_invr {b : List Int} (hb : Nz b) : short (inv b) = inv (short b) := by
  have hs := nz_short hb
  have hi := nz_inv hb
  have his := nz_inv hs
  have h1 : short (inv b ++ b) = [] := by
    have := short_inv hi
    rwa [inv_inv] at this
  have h2 : short (b ++ inv (short b)) = [] := by
    rw [← short_left hb]
    exact short_inv hs
  have h3 : short (inv b ++ b ++ inv (short b)) = inv (short b) := by
    rw [short_nil_of hi hb h1 _ his]
    exact short_id (red_inv (red_short' hb))
  have h4 : short (inv b ++ b ++ inv (short b)) = short (inv b) := by
    rw [List.append_assoc, ← short_right hi (fun k hk => by
      rcases List.mem_append.1 hk with h | h
      · exact hb k h
      · exact his k h), h2, List.append_nil]
  rw [← h4, h3]
theorem conjd_eq {a b : List Int} (ha : Nz a) (hb : Nz b) : conjd a b = short (inv b ++ a ++ b) := by
  unfold conjd
  rw [short_app, short_app, short_invr hb]
theorem tl_spec {c : List Int} (hc : 1 ≤ c.length) : ∀ (f : Nat) (o : List Int), ∃ k, k ≤ f ∧ tl c f o = o ++ reps k c ∧ (k = f ∨ 8192 < (o ++ reps k c).length)
  | 0, o => ⟨0, Nat.le_refl _, by simp [tl, reps], .inl rfl⟩
  | f + 1, o => by
    by_cases h : o.length ≤ 8192
    · obtain ⟨k, h1, h2, h3⟩ := tl_spec hc f (o ++ c)
      refine ⟨k + 1, by omega, ?_, ?_⟩
      · rw [tl_go h hc, h2, reps_succ, List.append_assoc]
      · rcases h3 with h3 | h3
        · left; omega
        · right; rw [reps_succ, ← List.append_assoc]; exact h3
    · refine ⟨0, by omega, ?_, .inr ?_⟩
      · rw [tl_stop (by omega)]; simp [reps]
      · simp only [reps, List.append_nil]; omega
/-- the reference's power is the program's, but for those that are too long -/
theorem times_pow {l S : List Int} {x : Int} {N : Nat} (hS : pbase l x = S) (hr : Red S) (hx : x ≠ 0) (h1 : 1 ≤ S.length) (hN : N = x.natAbs ∨ (8192 ≤ N ∧ 8192 ≤ x.natAbs)) : ended (timesL S (N : Int)) = ended (powl l x) := by
  have hc := core_pos hr h1
  have hp := powl_eq hS hx h1
  have hpl := powl_len hS hx h1
  obtain ⟨k, hk1, hk2, hk3⟩ := tl_spec hc N (inv (conj S))
  have ht : timesL S (N : Int) = inv (conj S) ++ reps k (core S) ++ conj S := by
    unfold timesL
    rw [show ((N : Int)).toNat = N by omega, hk2]
  have htl : (timesL S (N : Int)).length = 2 * (conj S).length + k * (core S).length := by
    rw [ht, List.length_append, List.length_append, inv_len, reps_len]; omega
  have hlong : 4096 < (timesL S (N : Int)).length → 4096 < (powl l x).length → ended (timesL S (N : Int)) = ended (powl l x) := fun a b => by
    unfold ended
    rw [if_neg (by omega), if_neg (by omega)]
  rcases hk3 with h | h
  · rcases hN with h2 | ⟨h2, h3⟩
    · rw [ht, hp, h, h2]
    · have e1 : N * 1 ≤ N * (core S).length := Nat.mul_le_mul_left _ hc
      have e2 : x.natAbs * 1 ≤ x.natAbs * (core S).length := Nat.mul_le_mul_left _ hc
      refine hlong ?_ ?_
      · rw [htl, h]; omega
      · rw [hpl]; omega
  · rw [List.length_append, inv_len, reps_len] at h
    refine hlong (by rw [htl]; omega) ?_
    rw [hpl]
    have : k ≤ x.natAbs ∨ 8192 ≤ x.natAbs := by omega
    rcases this with h4 | h4
    · have := Nat.mul_le_mul_right (core S).length h4
      omega
    · have e2 : x.natAbs * 1 ≤ x.natAbs * (core S).length := Nat.mul_le_mul_left _ hc
      omega
set_option maxRecDepth 100000 in
theorem rconj_out {w : World} {B na ca nb cb : Nat} {Aa Ab : Option Addr} {a b : List Int} (hra : ReadsI w B Aa a) (hrb : ReadsI w B Ab b) (hB : B ≤ w.heap.size) (hna : na = a.length) (hnb : nb = b.length) (hwa : Wf a) (hwb : Wf b) (hla : na ≤ 1000000) (hlb : nb ≤ 1000000) :
    Calls Tryd.prog 35 #[.slice Aa na ca, .slice Ab nb cb] w (ResOut w (conjR a b)) := by
  subst hna hnb
  have h2 := rows_lit w [(Aa, ca, a), (Ab, cb, b)] (B := B) (fun r hr => by
    simp only [List.mem_cons, List.mem_nil_iff, or_false] at hr
    rcases hr with rfl | rfl
    · exact hra
    · exact hrb) hB
  have HA := Lib.hid (show Calls Tryd.prog 66 #[.slice (some ⟨w.heap.size, 0, none⟩) 2 2] (w.alloc (.cells #[.slice Aa a.length ca, .slice Ab b.length cb] 22)) (fun e w' => e = .returned (.int .i64 (chk [a, b])) ∧ w.alloc (.cells #[.slice Aa a.length ca, .slice Ab b.length cb] 22) = w') from rall_any (c := 2) (n := 2) h2 rfl (by decide) (fun r hr => by
    simp only [List.mem_cons, List.mem_nil_iff, or_false] at hr
    rcases hr with rfl | rfl
    · exact ⟨hwa, by show a.length ≤ _; omega⟩
    · exact ⟨hwb, by show b.length ≤ _; omega⟩))
  have HB0 := Lib.hid ((Below.refl w.heap.size w).alloc (Nat.le_refl _) (.cells #[.slice Aa a.length ca, .slice Ab b.length cb] 22))
  unfold conjR
  clear h2
  by_cases hz : chk [a, b] = 0
  · rw [hz] at HA
    rw [if_pos hz]
    have hlets := chk_words hz
    have hlA := hlets a (by simp)
    have hlB := hlets b (by simp)
    have Hce := Lib.hid (show ended (conjd a b) = ended (short (inv b ++ a ++ b)) by rw [conjd_eq (letl_nz hlA.1) (letl_nz hlB.1)])
    have HL := Lib.hid (And.intro hlB.1 (And.intro (show LetL (inv b ++ a ++ b) from fun k hk => by
      rw [List.mem_append, List.mem_append] at hk
      rcases hk with (h | h) | h
      · exact letl_inv hlB.1 k h
      · exact hlA.1 k h
      · exact hlB.1 k h) (show (inv b ++ a ++ b).length ≤ 12288 by rw [List.length_append, List.length_append, inv_len]; omega)))
    have Hll := Lib.hid (show (inv b).length + a.length + b.length ≤ 1000000000 by rw [inv_len]; omega)
    have HR := Lib.hid (And.intro (And.intro hra hrb) hB)
    clear hra hrb hB hwa hwb hla hlb hz hlets hlA hlB
    go_enter Tryd.func35, Tryd.ntmps35
    go_wp2_with fail
    refine HA.out.mono ?_
    rintro e w' ⟨rfl, rfl⟩
    have hs0 : w.heap.size ≤ (w.alloc (.cells #[.slice Aa a.length ca, .slice Ab b.length cb] 22)).heap.size := by simp
    have HI := Lib.hid (rinv_any (w := w.alloc (.cells #[.slice Aa a.length ca, .slice Ab b.length cb] 22)) (c := cb) (HR.out.1.2.alloc HR.out.2 _) (by have := HR.out.2; simp; omega) rfl (letl_small HL.out.1) (by have h1 := HL.out.2.2; rw [List.length_append, List.length_append] at h1; omega))
    go_wp2_with fail
    refine HI.out.mono ?_
    rintro e w2 ⟨A2, n2, c2, rfl, ho2, hb2⟩
    have H2 := Lib.hid (And.intro ho2 (HB0.out.trans (hb2.mono hs0)))
    have hs2 := H2.out.2.size
    clear ho2 hb2
    have HJ := Lib.hid (rjoin3 (w := w2) (c1 := c2) (c2 := ca) (c3 := cb) H2.out.1.reads ((HR.out.1.1.below (H2.out.2.mono HR.out.2)).more (by have := HR.out.2; omega)) ((HR.out.1.2.below (H2.out.2.mono HR.out.2)).more (by have := HR.out.2; omega)) (Nat.le_refl _) H2.out.1.len.1 rfl rfl Hll.out)
    go_wp2_with fail
    refine HJ.out.mono ?_
    rintro e w3 ⟨A3, n3, c3, rfl, ho3, hb3⟩
    have H3 := Lib.hid (And.intro ho3 (H2.out.2.trans (hb3.mono hs2)))
    have hs3 := H3.out.2.size
    clear ho3 hb3
    go_wp2_with fail
    refine (rshort_any (c := c3) H3.out.1.reads (Nat.le_refl _) H3.out.1.len.1 HL.out.2.1 (by have := H3.out.1.len.1; have := HL.out.2.2; omega)).mono ?_
    rintro e w4 ⟨A4, n4, c4, rfl, ho4, hb4⟩
    have H4 := Lib.hid (And.intro (ho4.lower hs3) (H3.out.2.trans (hb4.mono hs3)))
    clear ho4 hb4
    go_wp2_with fail
    refine (rended_any H4.out.1 H4.out.2.size).mono ?_
    rintro e w5 ⟨A5, n5, k5, rfl, hg5, rfl⟩
    generalize ended (short (inv b ++ a ++ b)) = R at *
    have H5 := Lib.hid hg5
    clear hg5
    go_wp2_with fail
    go_ret2
    exact ⟨A5, n5, k5, by rw [Hce.out]; rfl, by rw [Hce.out]; exact H5.out, H4.out.2⟩
  · rw [if_neg hz]
    generalize chk [a, b] = z at *
    have hzb : (z != 0) = true := by simp; exact hz
    clear hra hrb hB hwa hwb hla hlb hz
    go_enter Tryd.func35, Tryd.ntmps35
    go_wp2_with fail
    refine HA.out.mono ?_
    rintro e w' ⟨rfl, rfl⟩
    go_wp2_with fail
    go_ret2
    exact resOut_nil HB0.out
/-- the reference's rounds -/
def rN (x : Int) : Nat := if x < 0 then (-max x (-8192)).toNat else x.toNat
theorem rN_spec (x : Int) : rN x = x.natAbs ∨ (8192 ≤ rN x ∧ 8192 ≤ x.natAbs) := by
  unfold rN
  by_cases h : x < 0
  · rw [if_pos h]; omega
  · rw [if_neg h]; omega
set_option maxRecDepth 100000 in
set_option maxHeartbeats 4000000 in
theorem rpow_out {w : World} {B n c : Nat} {A : Option Addr} {l : List Int} {x : Int} (hr : ReadsI w B A l) (hB : B ≤ w.heap.size) (hn : n = l.length) (hx1 : -9223372036854775808 ≤ x) (hx2 : x ≤ 9223372036854775807) (hw : Wf l) (hnl : n ≤ 1000000) :
    Calls Tryd.prog 33 #[.slice A n c, .int .i64 x] w (ResOut w (powR l x)) := by
  have HC := rcheck_any (c := c) hr hn (by omega) hw
  unfold powR
  by_cases hz : chk [l] = 0
  · rw [hz] at HC
    have HC := Lib.hid HC
    rw [if_pos hz]
    have hlet := word_let (chk_one.1 hz).1
    have hlen := (chk_one.1 hz).2
    have HS := Lib.hid (rshort_any (c := c) hr hB hn hlet (by omega))
    have hred := red_short' (letl_nz hlet)
    have hsl := short_len_le l
    have HL := Lib.hid (show LetL (pbase l x) ∧ (pbase l x).length ≤ 4096 ∧ Red (pbase l x) by
      refine ⟨?_, by rw [pbase_len]; omega, ?_⟩ <;> unfold pbase <;> by_cases hx : x < 0
      · rw [if_pos hx]; exact letl_inv (letl_short hlet)
      · rw [if_neg hx]; exact letl_short hlet
      · rw [if_pos hx]; exact red_inv hred
      · rw [if_neg hx]; exact hred)
    have HL0 := Lib.hid (And.intro (letl_short hlet) (show (short l).length ≤ 4096 by omega))
    by_cases hx0 : x = 0
    · have He := Lib.hid (show ended (powl l x) = ([], 0) by unfold powl; rw [if_pos (.inl hx0)]; rfl)
      subst hx0
      clear hr hB hn hw hnl hz hlet hlen hred hsl hx1 hx2
      go_enter Tryd.func33, Tryd.ntmps33
      go_wp2_with fail
      refine HC.out.mono ?_
      rintro e w' ⟨rfl, rfl⟩
      go_wp2_with fail
      refine HS.out.mono ?_
      rintro e w2 ⟨A2, n2, c2, rfl, ho2, hb2⟩
      have Hb2 := Lib.hid hb2
      clear ho2 hb2
      go_wp2_with fail
      go_ret2
      rw [He.out]
      exact resOut_nil Hb2.out
    · have hxb : (x == 0) = false := by simp; exact hx0
      by_cases hse : (short l).length = 0
      · have He := Lib.hid (show ended (powl l x) = ([], 0) by unfold powl; rw [if_pos (.inr (List.eq_nil_of_length_eq_zero (by rw [pbase_len]; exact hse)))]; rfl)
        have Hse := Lib.hid hse
        clear hr hB hn hw hnl hz hlet hlen hred hsl hse hx0
        go_enter Tryd.func33, Tryd.ntmps33
        go_wp2_with fail
        refine HC.out.mono ?_
        rintro e w' ⟨rfl, rfl⟩
        go_wp2_with fail
        refine HS.out.mono ?_
        rintro e w2 ⟨A2, n2, c2, rfl, ho2, hb2⟩
        have Hb2 := Lib.hid hb2
        have hn2 : ((n2 : Int) == 0) = true := by have h1 := ho2.len.1; have h2 := Hse.out; simp; omega
        clear ho2 hb2
        go_wp2_with fail
        go_ret2
        rw [He.out]
        exact resOut_nil Hb2.out
      · have HP := Lib.hid (And.intro (show x ≠ 0 from hx0) (show 1 ≤ (pbase l x).length by rw [pbase_len]; omega))
        have Hse := Lib.hid (show 1 ≤ (short l).length by omega)
        have Hx1 := Lib.hid hx1
        clear hr hB hn hw hnl hz hlet hlen hred hsl hse hx0
        by_cases hx : x < 0
        · have Hpb := Lib.hid (show pbase l x = inv (short l) by unfold pbase; rw [if_pos hx])
          have Hrn := Lib.hid (show ((rN x : Nat) : Int) = -max x (-8192) by unfold rN; rw [if_pos hx]; omega)
          have hm1 : 0 ≤ -max x (-8192) := by omega
          have hm2 : -max x (-8192) ≤ 8192 := by omega
          go_enter Tryd.func33, Tryd.ntmps33
          go_wp2_with fail
          refine HC.out.mono ?_
          rintro e w' ⟨rfl, rfl⟩
          go_wp2_with fail
          refine HS.out.mono ?_
          rintro e w2 ⟨A2, n2, c2, rfl, ho2, hb2⟩
          have H2 := Lib.hid (And.intro ho2 hb2)
          have hn2 : ((n2 : Int) == 0) = false := by have h1 := ho2.len.1; have h2 := Hse.out; simp; omega
          clear ho2 hb2
          have HI := Lib.hid (rinv_any (w := w2) (c := c2) H2.out.1.reads (Nat.le_refl _) H2.out.1.len.1 (letl_small HL0.out.1) (by have := H2.out.1.len.1; have := HL0.out.2; omega))
          go_wp2_with fail
          refine HI.out.mono ?_
          rintro e w3 ⟨A3, n3, c3, rfl, ho3, hb3⟩
          have hb23 := H2.out.2
          have H3 := Lib.hid (show OwnI w3 w.heap.size (.slice A3 n3 c3) (pbase l x) ∧ Below w.heap.size w w3 from ⟨by rw [Hpb.out]; exact ho3.lower hb23.size, hb23.trans (hb3.mono hb23.size)⟩)
          clear ho3 hb3 hb23
          have HTm := Lib.hid (rtimes_any (w := w3) (c := c3) (x := -max x (-8192)) H3.out.1.reads (Nat.le_refl _) H3.out.1.len.1 H3.out.1.len.2.1 HL.out.1 (by have := H3.out.1.len.1; have := HL.out.2.1; omega) H3.out.1.len.2.2 (by omega) (by omega))
          have HEq := Lib.hid (show ended (timesL (pbase l x) (-max x (-8192))) = ended (powl l x) from by rw [← times_pow rfl HL.out.2.2 HP.out.1 HP.out.2 (rN_spec x), Hrn.out])
          generalize timesL (pbase l x) (-max x (-8192)) = TL at *
          go_wp2_with fail
          with_reducible refine HTm.out.mono ?_
          rintro e w7 ⟨A7, n7, c7, rfl, ho7, hb7⟩
          have H7 := Lib.hid (And.intro (ho7.lower H3.out.2.size) (H3.out.2.trans (hb7.mono H3.out.2.size)))
          clear ho7 hb7
          go_wp2_with fail
          refine (rended_any H7.out.1 H7.out.2.size).mono ?_
          rintro e w8 ⟨A8, n8, k8, rfl, hg8, rfl⟩
          rw [HEq.out] at hg8 ⊢
          have H8 := Lib.hid hg8
          generalize ended (powl l x) = R at *
          clear hg8
          go_wp2_with fail
          go_ret2
          exact ⟨A8, n8, k8, rfl, H8.out, H7.out.2⟩
        · have Hpb := Lib.hid (show short l = pbase l x by unfold pbase; rw [if_neg hx])
          have Hrn := Lib.hid (show ((rN x : Nat) : Int) = x by unfold rN; rw [if_neg hx]; omega)
          go_enter Tryd.func33, Tryd.ntmps33
          go_wp2_with fail
          refine HC.out.mono ?_
          rintro e w' ⟨rfl, rfl⟩
          go_wp2_with fail
          refine HS.out.mono ?_
          rintro e w2 ⟨A2, n2, c2, rfl, ho2, hb2⟩
          have H2 := Lib.hid (And.intro ho2 hb2)
          have hn2 : ((n2 : Int) == 0) = false := by have h1 := ho2.len.1; have h2 := Hse.out; simp; omega
          clear ho2 hb2
          have H3 := Lib.hid (show OwnI w2 w.heap.size (.slice A2 n2 c2) (pbase l x) ∧ Below w.heap.size w w2 from ⟨by rw [← Hpb.out]; exact H2.out.1, H2.out.2⟩)
          have HTm := Lib.hid (rtimes_any (w := w2) (c := c2) (x := x) H3.out.1.reads (Nat.le_refl _) H3.out.1.len.1 H3.out.1.len.2.1 HL.out.1 (by have := H3.out.1.len.1; have := HL.out.2.1; omega) H3.out.1.len.2.2 (by omega) (by omega))
          have HEq := Lib.hid (show ended (timesL (pbase l x) x) = ended (powl l x) from by rw [← times_pow rfl HL.out.2.2 HP.out.1 HP.out.2 (rN_spec x), Hrn.out])
          generalize timesL (pbase l x) x = TL at *
          go_wp2_with fail
          with_reducible refine HTm.out.mono ?_
          rintro e w7 ⟨A7, n7, c7, rfl, ho7, hb7⟩
          have H7 := Lib.hid (And.intro (ho7.lower H3.out.2.size) (H3.out.2.trans (hb7.mono H3.out.2.size)))
          clear ho7 hb7
          go_wp2_with fail
          refine (rended_any H7.out.1 H7.out.2.size).mono ?_
          rintro e w8 ⟨A8, n8, k8, rfl, hg8, rfl⟩
          rw [HEq.out] at hg8 ⊢
          have H8 := Lib.hid hg8
          generalize ended (powl l x) = R at *
          clear hg8
          go_wp2_with fail
          go_ret2
          exact ⟨A8, n8, k8, rfl, H8.out, H7.out.2⟩
  · rw [if_neg hz]
    generalize chk [l] = z at *
    have HC := Lib.hid HC
    have hzb : (z != 0) = true := by simp; exact hz
    clear hr hB hn hw hnl hz
    go_enter Tryd.func33, Tryd.ntmps33
    go_wp2_with fail
    refine HC.out.mono ?_
    rintro e w' ⟨rfl, rfl⟩
    go_wp2_with fail
    go_ret2
    exact resOut_nil (Below.refl _ _)
end Go.Proofs.YtmjnhpagoboejaaDoor

/- Put, plain. -/
namespace Go.Proofs.YtmjnhpagoboejaaDoor
open Go.RowKit
open Wd
set_option linter.unusedSimpArgs false
set_option linter.unusedVariables false

/-- what stands for a letter -/
def img (ims : List (List Int)) (k : Int) : List Int := if 0 < k then ims.getD (k - 1).toNat [] else inv (ims.getD (-k - 1).toNat [])
def putL (ims : List (List Int)) (o : List Int) (l : List Int) : List Int := l.foldl (fun o k => onl o (img ims k)) o
def fitsB (ims : List (List Int)) (l : List Int) : Bool := l.all (fun k => decide ((k.natAbs : Int) ≤ ims.length))
def putR (l : List Int) (ims : List (List Int)) : List Int × Int := if chk (l :: ims) = 0 then (if fitsB ims l then ended (putL ims [] l) else ([], 2)) else ([], chk (l :: ims))
theorem putR_len (l : List Int) (ims : List (List Int)) : (putR l ims).1.length ≤ 4096 := by
  unfold putR
  split
  · split
    · unfold ended; split
      · assumption
      · exact Nat.zero_le _
    · exact Nat.zero_le _
  · exact Nat.zero_le _
theorem putL_step {ims : List (List Int)} {l o : List Int} {i : Nat} (h : i < l.length) : putL ims o (l.take (i + 1)) = onl (putL ims o (l.take i)) (img ims l[i]) := by
  unfold putL
  rw [List.take_succ_eq_append_getElem h, List.foldl_append]
  rfl
theorem fits_step {ims : List (List Int)} {l : List Int} {i : Nat} (h : i < l.length) (h0 : fitsB ims (l.take i) = true) (h1 : (l[i].natAbs : Int) ≤ ims.length) : fitsB ims (l.take (i + 1)) = true := by
  unfold fitsB at h0 ⊢
  rw [List.take_succ_eq_append_getElem h, List.all_append, h0]
  simp only [List.all_cons, List.all_nil, Bool.and_true, Bool.true_and, decide_eq_true_eq]
  exact h1
theorem fits_no {ims : List (List Int)} {l : List Int} {i : Nat} (h : i < l.length) (h1 : (ims.length : Int) < (l[i].natAbs : Int)) : fitsB ims l = false := by
  unfold fitsB
  rw [List.all_eq_false]
  exact ⟨l[i], List.getElem_mem h, by simp only [decide_eq_true_eq]; omega⟩
theorem fits_at {ims : List (List Int)} {l : List Int} (hf : fitsB ims l = true) : ∀ k ∈ l, (k.natAbs : Int) ≤ ims.length := fun k hk => of_decide_eq_true (List.all_eq_true.1 hf k hk)
theorem putL_len {ims : List (List Int)} {M : Nat} (hM : ∀ m ∈ ims, m.length ≤ M) : ∀ (l o : List Int), (putL ims o l).length ≤ o.length + M * l.length
  | [], o => by simp [putL]
  | k :: l, o => by
    have hi : (img ims k).length ≤ M := by
      have hg : ∀ j, (ims.getD j []).length ≤ M := fun j => by
        rw [List.getD_eq_getElem?_getD]
        rcases Nat.lt_or_ge j ims.length with h | h
        · rw [List.getElem?_eq_getElem h]; exact hM _ (List.getElem_mem h)
        · rw [List.getElem?_eq_none h]; exact Nat.zero_le _
      unfold img
      split
      · exact hg _
      · rw [inv_len]; exact hg _
    have h1 := putL_len hM l (onl o (img ims k))
    have h2 := onl_len_le (img ims k) o
    show (putL ims (onl o (img ims k)) l).length ≤ _
    rw [List.length_cons, Nat.mul_add, Nat.mul_one]
    omega
theorem letl_img {ims : List (List Int)} (h : ∀ m ∈ ims, LetL m) (k : Int) : LetL (img ims k) := by
  have hg : ∀ j, LetL (ims.getD j []) := fun j => by
    rw [List.getD_eq_getElem?_getD]
    rcases Nat.lt_or_ge j ims.length with h' | h'
    · rw [List.getElem?_eq_getElem h']; exact h _ (List.getElem_mem h')
    · rw [List.getElem?_eq_none h']; exact fun x hx => by cases hx
  unfold img
  split
  · exact hg _
  · exact letl_inv (hg _)
theorem red_onl {o w : List Int} (ho : Red o) (hw : Nz w) : Red (onl o w) := by
  unfold onl
  exact red_rev' (red_act (red_rev' ho) hw)
theorem red_putL {ims : List (List Int)} (h : ∀ m ∈ ims, LetL m) : ∀ (l o : List Int), Red o → Red (putL ims o l)
  | [], o, ho => ho
  | k :: l, o, ho => red_putL h l _ (red_onl ho (letl_nz (letl_img h k)))
/-- how many letters fall away between two words -/
def glueN (v w : List Int) : Nat → Nat → Nat
  | 0, n => n
  | f + 1, n => if n < v.length ∧ n < w.length ∧ v.getD (v.length - 1 - n) 0 = - w.getD n 0 then glueN v w f (n + 1) else n
theorem glueN_go {v w : List Int} {n : Nat} (h : n < v.length ∧ n < w.length ∧ v.getD (v.length - 1 - n) 0 = - w.getD n 0) : glueN v w (v.length - n) n = glueN v w (v.length - (n + 1)) (n + 1) := by
  rw [show v.length - n = (v.length - (n + 1)) + 1 by omega, glueN, if_pos h]
theorem glueN_stop {v w : List Int} {f n : Nat} (h : ¬ (n < v.length ∧ n < w.length ∧ v.getD (v.length - 1 - n) 0 = - w.getD n 0)) : glueN v w f n = n := by
  cases f with
  | zero => rfl
  | succ f => rw [glueN, if_neg h]
theorem red_append {v w : List Int} (hv : Red v) (hw : Red w) (h : ¬ (0 < v.length ∧ 0 < w.length ∧ v.getD (v.length - 1) 0 = - w.getD 0 0)) : Red (v ++ w) := by
  have h1 := red_iff.1 hv
  have h2 := red_iff.1 hw
  refine red_iff.2 ⟨fun k hk => ?_, fun i hi => ?_⟩
  · rcases List.mem_append.1 hk with hk | hk
    · exact h1.1 k hk
    · exact h2.1 k hk
  · rw [List.length_append] at hi
    rcases Nat.lt_trichotomy (i + 1) v.length with h3 | h3 | h3
    · rw [getD_app_left (by omega), getD_app_left (by omega)]
      exact h1.2 i h3
    · rw [getD_app_right (by omega), getD_app_left (by omega), show i + 1 - v.length = 0 by omega]
      intro he
      exact h ⟨by omega, by omega, by rw [show v.length - 1 = i by omega]; omega⟩
    · rw [getD_app_right (by omega), getD_app_right (by omega), show i + 1 - v.length = (i - v.length) + 1 by omega]
      exact h2.2 _ (by omega)
theorem onl_red {v w : List Int} (h : Red (v ++ w)) : onl v w = v ++ w := by
  unfold onl
  rw [act_rev w v.reverse (by rw [← List.reverse_append]; exact red_rev' h), List.reverse_append, List.reverse_reverse, List.reverse_reverse]
/-- the product of two reduced words -/
theorem glue_eq : ∀ (f : Nat) (v w : List Int) (n : Nat), Red v → Red w → n + f = v.length → n ≤ w.length → (∀ i, i < n → v.getD (v.length - 1 - i) 0 = - w.getD i 0) → onl v w = v.take (v.length - glueN v w f n) ++ w.drop (glueN v w f n) := by
  have key : ∀ (n : Nat) (v w : List Int), Nz w → n ≤ v.length → n ≤ w.length → (∀ i, i < n → v.getD (v.length - 1 - i) 0 = - w.getD i 0) → onl v w = onl (v.take (v.length - n)) (w.drop n) := by
    intro n
    induction n with
    | zero => intro v w _ _ _ _; rw [Nat.sub_zero, List.take_of_length_le (Nat.le_refl _), List.drop_zero]
    | succ n ih =>
      intro v w hz hv hw h
      rw [ih v w hz (by omega) (by omega) (fun i hi => h i (by omega))]
      have hn := h n (by omega)
      have hwn : n < w.length := by omega
      have hvn : v.length - 1 - n < v.length := by omega
      rw [List.drop_eq_getElem_cons hwn]
      have e1 : v.take (v.length - n) = v.take (v.length - (n + 1)) ++ [v[v.length - 1 - n]] := by
        have := List.take_succ_eq_append_getElem hvn
        rw [show v.length - n = v.length - 1 - n + 1 by omega, this, show v.length - (n + 1) = v.length - 1 - n by omega]
      rw [e1, show (w[n] :: w.drop (n + 1)) = [w[n]] ++ w.drop (n + 1) from rfl, onl_app]
      rw [List.getD_eq_getElem?_getD, List.getElem?_eq_getElem hvn, List.getD_eq_getElem?_getD, List.getElem?_eq_getElem hwn] at hn
      have hn' : v[v.length - 1 - n] = - w[n] := hn
      rw [onl_off hn']
  have fin : ∀ (v w : List Int) (n : Nat), Red v → Red w → n ≤ v.length → n ≤ w.length → (∀ i, i < n → v.getD (v.length - 1 - i) 0 = - w.getD i 0) → ¬ (n < v.length ∧ n < w.length ∧ v.getD (v.length - 1 - n) 0 = - w.getD n 0) → onl v w = v.take (v.length - n) ++ w.drop n := by
    intro v w n hv hw h1 h2 h3 h4
    rw [key n v w (red_nz hw) h1 h2 h3]
    have hr1 : Red (v.take (v.length - n)) := by
      have : Red ([] ++ v.take (v.length - n) ++ v.drop (v.length - n)) := by rw [List.nil_append, List.take_append_drop]; exact hv
      exact red_mid this
    have hr2 : Red (w.drop n) := by
      have : Red (w.take n ++ w.drop n ++ []) := by rw [List.append_nil, List.take_append_drop]; exact hw
      exact red_mid this
    refine onl_red (red_append hr1 hr2 ?_)
    rintro ⟨h5, h6, h7⟩
    rw [List.length_take] at h5 h7
    rw [List.length_drop] at h6
    refine h4 ⟨by omega, by omega, ?_⟩
    rw [List.getD_eq_getElem?_getD, List.getElem?_take, if_pos (by omega), List.getD_eq_getElem?_getD, List.getElem?_drop] at h7
    rw [List.getD_eq_getElem?_getD, List.getD_eq_getElem?_getD, show v.length - 1 - n = min (v.length - n) v.length - 1 by omega]
    exact h7
  intro f
  induction f with
  | zero =>
    intro v w n hv hw h1 h2 h3
    show onl v w = v.take (v.length - n) ++ w.drop n
    exact fin v w n hv hw (by omega) h2 h3 (by omega)
  | succ f ih =>
    intro v w n hv hw h1 h2 h3
    by_cases hc : n < v.length ∧ n < w.length ∧ v.getD (v.length - 1 - n) 0 = - w.getD n 0
    · rw [glueN, if_pos hc]
      refine ih v w (n + 1) hv hw (by omega) (by omega) (fun i hi => ?_)
      rcases Nat.lt_or_ge i n with h | h
      · exact h3 i h
      · rw [show i = n by omega]; exact hc.2.2
    · rw [glueN, if_neg hc]
      exact fin v w n hv hw (by omega) h2 h3 hc
end Go.Proofs.YtmjnhpagoboejaaDoor
