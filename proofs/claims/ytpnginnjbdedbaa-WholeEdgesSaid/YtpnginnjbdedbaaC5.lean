import Derived.Test.YtpnginnjbdedbaaC4
import Derived.Lib.ConvBytes
import Derived.BigQuiet
/- whole.Check. -/
namespace Go.Proofs.Ytpnginnjbdedbaa
open Go.RowKit
open Wh
set_option linter.unusedSimpArgs false

/-- a number that may be -/
def MayL (neg : Bool) (l : List UInt8) : Prop := l.length ≤ 16384 ∧ (l = [] → neg = false) ∧ Formed l
theorem toL (s : ByteArray) : s.toList = s.data.toList := ByteArray.toList_eq s
def Told (w : World) (v : Value) (e : Ending) (w' : World) : Prop := e = .returned v ∧ Below w.heap.size w w'
theorem str_facts {s : ByteArray} (h : 0 < s.size) : s.toList.isEmpty = false ∧ ¬ s.toList = [] := by
  have hl : s.data.toList.length = s.size := Array.length_toList
  rw [toL]
  constructor
  · rw [List.isEmpty_eq_false_iff]; intro h0; rw [h0] at hl; simp at hl; omega
  · intro h0; rw [h0] at hl; simp at hl; omega
theorem str_empty {s : ByteArray} (h : s.data.toList = []) : s = ⟨#[]⟩ := by
  have h1 : s.data = #[] := by simpa using h
  cases s; simp_all
theorem str_head {s : ByteArray} (h : 0 < s.size) : s.data.toList.head? = some s[0] := by
  have hl : s.data.toList.length = s.size := Array.length_toList
  rw [List.head?_eq_getElem?, List.getElem?_eq_getElem (by omega)]
  rfl
set_option maxRecDepth 100000 in
set_option maxHeartbeats 1000000 in
theorem check_ok {w : World} {neg : Bool} {s : ByteArray} (h : MayL neg s.data.toList) :
    Calls Try.prog 43 #[.agg #[.bool neg, .string s]] w (Told w (.int .i64 0)) := by
  obtain ⟨h1, h2, h3⟩ := h
  have hl : s.data.toList.length = s.size := Array.length_toList
  rcases Nat.eq_zero_or_pos s.size with h0 | h0
  · have he : s.data.toList = [] := List.eq_nil_of_length_eq_zero (by omega)
    obtain rfl := str_empty he
    obtain rfl := h2 he
    clear h1 h2 h3 hl h0 he
    go_enter Try.func43, Try.ntmps43
    go_wp2
    go_ret
    exact ⟨rfl, (Below.refl _ _).alloc (Nat.le_refl _) _⟩
  · obtain ⟨e1, e2⟩ := str_facts h0
    have hi0 : (0 : Int) < (s.size : Int) := by omega
    have hi1 : (s.size : Int) ≤ 16384 := by omega
    have hne : ¬ s[0].toNat = 0 := fun hh => h3 s[0] (str_head h0) (by rw [← UInt8.toNat_inj]; exact hh)
    have hb0 : ((s[0].toNat : Int) == 0) = false := by simp; omega
    have hd : decide ((16384 : Int) < (s.size : Int)) = false := by simp; omega
    clear h1 h2 h3 hl
    go_enter Try.func43, Try.ntmps43
    go_wp2
    go_ret
    exact ⟨rfl, (Below.refl _ _).alloc (Nat.le_refl _) _⟩
set_option maxRecDepth 100000 in
set_option maxHeartbeats 1000000 in
theorem check_no {w : World} {neg : Bool} {s : ByteArray} (h : ¬ MayL neg s.data.toList) :
    Calls Try.prog 43 #[.agg #[.bool neg, .string s]] w (Told w (.int .i64 2)) := by
  have hl : s.data.toList.length = s.size := Array.length_toList
  rcases Nat.eq_zero_or_pos s.size with h0 | h0
  · have he : s.data.toList = [] := List.eq_nil_of_length_eq_zero (by omega)
    have hn : neg = true := by
      cases neg with
      | true => rfl
      | false => exact absurd ⟨by omega, fun _ => rfl, by rw [he]; intro x hx; cases hx⟩ h
    obtain rfl := str_empty he
    subst hn
    clear h hl h0 he
    go_enter Try.func43, Try.ntmps43
    go_wp2
    go_ret
    exact ⟨rfl, (Below.refl _ _).alloc (Nat.le_refl _) _⟩
  · obtain ⟨e1, e2⟩ := str_facts h0
    have hi0 : (0 : Int) < (s.size : Int) := by omega
    by_cases hz : s[0].toNat = 0
    · have hb0 : ((s[0].toNat : Int) == 0) = true := by simp; omega
      clear h hl
      go_enter Try.func43, Try.ntmps43
      go_wp2
      go_ret
      exact ⟨rfl, (Below.refl _ _).alloc (Nat.le_refl _) _⟩
    · have hb0 : ((s[0].toNat : Int) == 0) = false := by simp; omega
      have hbig : 16384 < s.size := by
        rcases Nat.lt_or_ge 16384 s.size with h5 | h5
        · exact h5
        · refine absurd ⟨by omega, fun h6 => ?_, fun x hx => ?_⟩ h
          · rw [h6] at hl; simp at hl; omega
          · rw [str_head h0] at hx
            injection hx with hx
            rw [← hx]
            intro h7
            rw [h7] at hz
            exact hz rfl
      have hd : decide ((16384 : Int) < (s.size : Int)) = true := by simp; omega
      have hi1 : (16384 : Int) < (s.size : Int) := by omega
      clear h hl
      go_enter Try.func43, Try.ntmps43
      go_wp2
      go_ret
      exact ⟨rfl, (Below.refl _ _).alloc (Nat.le_refl _) _⟩
end Go.Proofs.Ytpnginnjbdedbaa

/- whole.of. -/
namespace Go.Proofs.Ytpnginnjbdedbaa
open Go.RowKit
open Wh
set_option linter.unusedSimpArgs false

def pv (g : Nat) : Value := .pointer (some ⟨g, 0, none⟩)
theorem pv_one (l : List Nat) : ∀ u ∈ l.map pv, u.oneCell' = true := by
  intro u hu
  obtain ⟨b, _, rfl⟩ := List.mem_map.1 hu
  rfl
theorem infoP : (Try.prog.info? 79).map (fun i => (i.zero, i.size, i.bytes)) = some (some (.pointer none), 1, 8) := by kernel_rfl
/-- new pointers -/
def OwnP (w : World) (B : Nat) (v : Value) (l : List Nat) : Prop := w.ownsRow B 79 1 v l.length (l.map pv)
theorem OwnP.form {w : World} {B : Nat} {v : Value} {l : List Nat} (h : OwnP w B v l) : ∃ A c, v = .slice A l.length c ∧ l.length ≤ c := by
  rcases h.2 with ⟨rfl, h0⟩ | ⟨g, cap, cur, rfl, _, _, hc, hm, _⟩
  · exact ⟨none, 0, by rw [h0], by omega⟩
  · exact ⟨_, cap, rfl, hc⟩
theorem OwnP.len {w : World} {B n c : Nat} {A : Option Addr} {l : List Nat} (h : OwnP w B (.slice A n c) l) : n = l.length := by
  obtain ⟨A', c', e, h1⟩ := h.form
  injection e
theorem OwnP.nil (w : World) (B : Nat) : OwnP w B (.slice none 0 0) [] := World.ownsRow_nil w B _ 1
/-- pointers that are read -/
def ReadsP (w : World) (B : Nat) (A : Option Addr) (l : List Nat) : Prop := Reads w B 1 A l.length (l.map pv)
theorem ReadsP.at_ {w : World} {B : Nat} {A : Option Addr} {l : List Nat} (h : ReadsP w B A l) {k : Nat} (hk : k < l.length) : ∃ ad, A = some ad ∧ ad.block < B ∧ w.cell? (ad.add k) = some (.pointer (some ⟨l[k], 0, none⟩)) := by
  obtain ⟨ad, u, e, hb, hu, hc⟩ := Reads.at_ h hk
  refine ⟨ad, e, hb, ?_⟩
  rw [hc]
  rw [List.getElem?_map, List.getElem?_eq_getElem hk] at hu
  exact hu.symm
theorem OwnP.reads {w : World} {B n c : Nat} {A : Option Addr} {l : List Nat} (h : OwnP w B (.slice A n c) l) : ReadsP w w.heap.size A l := by
  obtain rfl := h.len
  exact Reads.of_own h
/-- append(l, p) -/
theorem wpP_push {w : World} {ops : Array Oper} {rest : List Oper} {o : Oper} {a : Act} {Q : Exit → Act → World → Prop} (hgd : o.guard = none) (s x : Operand)
    (ho : o.op = .call { callee := .builtin .append, args := #[s, x], argTypes := #[76, 76] }) (B : Nat) (v : Value) (l : List Nat) (hown : OwnP w B v l) (hs : a.eval s = v)
    {g : Nat} (hx : a.eval x = .slice (some ⟨w.heap.size, 0, none⟩) 1 1) (hlen : l.length ≤ 1000000000) (hbase : B ≤ w.heap.size)
    (h : ∀ A' n' c' w', OwnP w' B (.slice A' n' c') (l ++ [g]) → (∀ w0, Below B w0 w → Below B w0 w') → w.grownBy w' v.ownBlock → wpList Try.prog ops Q rest (a.put o.dst (.slice A' n' c')) w') :
    wpList Try.prog ops Q (o :: rest) a (w.alloc (.cells #[.pointer (some ⟨g, 0, none⟩)] 79)) := by
  obtain ⟨i0, hi, hz0, hz1, hz2⟩ := info_parts infoP
  have hr : Reads (w.alloc (.cells #[.pointer (some ⟨g, 0, none⟩)] 79)) (w.heap.size + 1) 1 (some ⟨w.heap.size, 0, none⟩) 1 ([g].map pv) := by
    refine ⟨by simp, fun _ => ⟨_, rfl, Nat.lt_succ_self _, fun j u hu => ?_⟩⟩
    have hb := Blk.new w 79 #[.pointer (some ⟨g, 0, none⟩)]
    match j, hu with
    | 0, hu => rw [Addr.add_zero', hb.cell 0]; exact hu
    | j + 1, hu => simp at hu
  refine wpList_append_any _ hgd s x 76 ho B 79 i0 (.pointer none) 1 8 Try.underlying76 hi hz0 hz1 hz2 rfl (by decide) v l.length (l.map pv) hs (hown.alloc _) _ _ 1 1 ([g].map pv) hx hr (pv_one _) (by unfold maxLen; omega) (by omega) (by simp; omega) ?_
  intro v' w' h1 h2 h3
  have h4 : OwnP w' B v' (l ++ [g]) := by
    unfold OwnP
    rw [List.length_append, List.map_append]
    exact h1
  obtain ⟨A', c', rfl, _⟩ := h4.form
  have h5 : w.grownBy w' v.ownBlock := ⟨h2.os, h2.tape, h2.output, Nat.le_trans (by simp) h2.size, fun i hi hne => (h2.block i (by simp; omega) hne).trans (Below.heap_alloc w _ i hi)⟩
  exact h A' _ c' w' h4 (fun w0 hb => (hb.alloc hbase _).grown h2 (by simp; omega) (fun k hk => (World.ownsRow.lt hown k hk).1)) h5

/-- the number of a sign and bytes -/
def num (a : Bool × ByteArray) : Int := sgn a.1 (bval a.2.data.toList)
def wcs (a : Bool × ByteArray) : List Value := [.bool a.1, .string a.2]
/-- whole numbers that are read -/
def ReadsWh (w : World) (B : Nat) (A : Option Addr) (l : List (Bool × ByteArray)) : Prop := Reads w B 2 A l.length (l.flatMap wcs)
theorem flat_get : ∀ (l : List (Bool × ByteArray)) (k : Nat) (h : k < l.length), (l.flatMap wcs)[2 * k]? = some (.bool l[k].1) ∧ (l.flatMap wcs)[2 * k + 1]? = some (.string l[k].2)
  | x :: r, 0, _ => ⟨rfl, rfl⟩
  | x :: r, k + 1, h => by
    have := flat_get r k (by simpa using h)
    rw [show 2 * (k + 1) = 2 * k + 1 + 1 by omega]
    exact this
theorem ReadsWh.at_ {w : World} {B : Nat} {A : Option Addr} {l : List (Bool × ByteArray)} (h : ReadsWh w B A l) {k : Nat} (hk : k < l.length) : ∃ ad, A = some ad ∧ ad.block < B ∧ w.cell? (ad.add (k * 2)) = some (.bool l[k].1) ∧ w.cell? ⟨(ad.add (k * 2)).block, (ad.add (k * 2)).off + 1, none⟩ = some (.string l[k].2) := by
  obtain ⟨ad, e, hb, hc⟩ := h.2 (by omega)
  obtain ⟨h1, h2⟩ := flat_get l k hk
  refine ⟨ad, e, hb, ?_, ?_⟩
  · rw [Nat.mul_comm]; exact hc _ _ h1
  · have := hc _ _ h2
    rw [Nat.mul_comm, ← add_of_add, add_pos (by decide)] at this
    exact this
/-- numbers in their blocks, each a block of its own -/
def Ints (w : World) : List Nat → List Int → Prop
  | [], [] => True
  | g :: gs, z :: zs => IntB w g z ∧ g ∉ gs ∧ Ints w gs zs
  | _, _ => False

theorem Ints.keep {w w' : World} : ∀ {gs : List Nat} {zs : List Int}, (∀ g ∈ gs, ∀ z, IntB w g z → IntB w' g z) → Ints w gs zs → Ints w' gs zs
  | [], [], _, _ => trivial
  | g :: gs, z :: zs, h, ⟨h1, h2, h3⟩ => ⟨h g (by simp) z h1, h2, Ints.keep (fun g' hg' => h g' (by simp [hg'])) h3⟩
  | [], _ :: _, _, h => h.elim
  | _ :: _, [], _, h => h.elim
theorem Ints.snoc {w : World} {g : Nat} {z : Int} : ∀ {gs : List Nat} {zs : List Int}, Ints w gs zs → IntB w g z → g ∉ gs → Ints w (gs ++ [g]) (zs ++ [z])
  | [], [], _, h, _ => ⟨h, by simp, trivial⟩
  | g' :: gs, z' :: zs, ⟨h1, h2, h3⟩, h, hn => ⟨h1, by
      show ¬ g' ∈ gs ++ [g]
      rw [List.mem_append]
      rintro (h5 | h5)
      · exact h2 h5
      · simp only [List.mem_singleton] at h5
        exact hn (by simp [h5]), Ints.snoc h3 h (fun h5 => hn (by simp [h5]))⟩
  | [], _ :: _, h, _, _ => h.elim
  | _ :: _, [], h, _, _ => h.elim
theorem IntB.other {w w' : World} {g : Nat} {z : Int} {row : Option Nat} (h : IntB w g z) (hg : w.grownBy w' row) (hr : ∀ r, row = some r → ∃ cs t fz, w.heap[r]? = some (.cells cs t fz) ∧ t ≠ 98 ∧ t ≠ 82) : IntB w' g z := by
  obtain ⟨s, A, n, c, hb, h1, h2, h3, hrd⟩ := h
  refine ⟨s, A, n, c, hb.grown hg ?_, h1, h2, h3, (hrd.other hg (Nat.le_refl _) fun r e => ?_).more hg.size⟩
  · intro e
    obtain ⟨cs, t, fz, hh, _, hne⟩ := hr g e.symm
    unfold Blk at hb
    rw [hb] at hh
    injection hh with hh
    injection hh with _ h5
    exact hne h5.symm
  · obtain ⟨cs, t, fz, hh, hne, _⟩ := hr r e
    exact ⟨cs, t, fz, hh, hne⟩
theorem OwnP.row {w : World} {B : Nat} {v : Value} {l : List Nat} (h : OwnP w B v l) : ∀ r, v.ownBlock = some r → ∃ cs t fz, w.heap[r]? = some (.cells cs t fz) ∧ t ≠ 98 ∧ t ≠ 82 := by
  intro r hr
  rcases h.2 with ⟨rfl, _⟩ | ⟨g, cap, cur, rfl, _, hh, _⟩
  · cases hr
  · injection hr with hr
    simp only at hr
    subst hr
    exact ⟨_, _, _, hh, by decide, by decide⟩
theorem OwnP.kept {w w' : World} {B : Nat} {v : Value} {l : List Nat} (h : OwnP w B v l) (hb : Below w.heap.size w w') : OwnP w' B v l := by
  refine ⟨h.1, ?_⟩
  rcases h.2 with h' | ⟨g, cap, cur, hv, hg, hh, r⟩
  · exact .inl h'
  · exact .inr ⟨g, cap, cur, hv, hg, (hb.block g (Array.getElem?_eq_some_iff.1 hh).1).trans hh, r⟩
theorem len_mag {l : List UInt8} (h : l.length ≤ 16384) : (wds (bval l)).length ≤ 5000 := by
  have h1 := bval_lt l
  refine Nat.le_trans (len_wds (k := (l.length + 3) / 4) ?_) (by omega)
  rw [show (4294967296 : Nat) = 256 ^ 4 by decide, ← Nat.pow_mul]
  exact Nat.lt_of_lt_of_le h1 (Nat.pow_le_pow_right (by decide) (by omega))
theorem Ints.lt {w : World} : ∀ {gs : List Nat} {zs : List Int}, Ints w gs zs → ∀ g ∈ gs, g < w.heap.size
  | [], [], _, g, hg => by cases hg
  | g' :: gs, z :: zs, ⟨h1, _, h3⟩, g, hg => by
    rcases List.mem_cons.1 hg with rfl | hg
    · exact h1.lt
    · exact Ints.lt h3 g hg
  | [], _ :: _, h, _, _ => h.elim
  | _ :: _, [], h, _, _ => h.elim
theorem bytes_below (w : World) (s : ByteArray) : Below w.heap.size w (Lib.bytesWorld w 5 s) := ⟨rfl, rfl, rfl, by rw [Lib.bytesWorld_size]; omega, fun i hi => Lib.bytesWorld_at_old w 5 s i hi⟩
theorem bytes_reads (w : World) (s : ByteArray) : ReadsB (Lib.bytesWorld w 5 s) (Lib.bytesWorld w 5 s).heap.size (some ⟨w.heap.size, 0, none⟩) s.data.toList := by
  have hl : s.data.toList.length = s.size := Array.length_toList
  refine ⟨by simp, fun _ => ⟨_, rfl, by rw [Lib.bytesWorld_size]; exact Nat.lt_succ_self _, fun j u hu => ?_⟩⟩
  have hj : j < s.size := by
    rcases Nat.lt_or_ge j s.size with h | h
    · exact h
    · rw [List.getElem?_map, List.getElem?_eq_none (by omega)] at hu; cases hu
  rw [Addr.add_lit, Nat.zero_add, Lib.bytesWorld_cell w 5 s j hj, ← hu, List.getElem?_map, List.getD_eq_getElem?_getD, List.getElem?_eq_getElem (by omega)]
  rfl
/-- all may be: their blocks -/
def OfOk (w : World) (zs : List Int) (e : Ending) (w' : World) : Prop := ∃ A n c gs, e = .returned (.tuple #[.slice A n c, .bool true]) ∧ Hid (n = gs.length ∧ gs.length = zs.length) ∧ ReadsP w' w'.heap.size A gs ∧ Ints w' gs zs ∧ Below w.heap.size w w' ∧ (∀ g ∈ gs, w.heap.size ≤ g)
/-- one may not be -/
def OfNo (w : World) (e : Ending) (w' : World) : Prop := ∃ A n c, e = .returned (.tuple #[.slice A n c, .bool false]) ∧ Below w.heap.size w w'
theorem num_take {l : List (Bool × ByteArray)} {i : Nat} (h : i < l.length) : (l.take (i + 1)).map num = (l.take i).map num ++ [num l[i]] := by
  rw [List.take_succ_eq_append_getElem h, List.map_append]; rfl
def AllMay (l : List (Bool × ByteArray)) : Prop := ∀ a ∈ l, MayL a.1 a.2.data.toList
def Ofs (w : World) (l : List (Bool × ByteArray)) (e : Ending) (w' : World) : Prop := (AllMay l → OfOk w (l.map num) e w') ∧ (¬ AllMay l → OfNo w e w')

set_option maxRecDepth 100000 in
set_option maxHeartbeats 8000000 in
theorem ofs_any {w : World} {B n c : Nat} {A : Option Addr} {l : List (Bool × ByteArray)} (hr : ReadsWh w B A l) (hB : B ≤ w.heap.size) (hn : n = l.length) (hnl : n ≤ 100000) :
    Calls Try.prog 62 #[.slice A n c] w (Ofs w l) := by
  have Hn := Lib.hid hn
  have kc := fun (W : World) (s : ByteArray) => Lib.run_convert_string_bytes (P := Try.prog) W 9 107 5 s Try.underlying9 Try.underlying107 Try.underlying5
  clear hn
  go_enter Try.func62, Try.ntmps62
  go_wp2_with fail
  go_loopg [4, 10] n (fun k ov iv wr => ∃ (i : Nat) (A' : Option Addr) (n' c' : Nat) (gs : List Nat), ov = .slice A' n' c' ∧ iv = .int .i64 (i : Int) ∧ k = n - i ∧ i ≤ n ∧ OwnP wr w.heap.size (.slice A' n' c') gs ∧ Below w.heap.size w wr ∧ Ints wr gs ((l.take i).map num) ∧
    Hid (gs.length = i ∧ (∀ g ∈ gs, w.heap.size ≤ g) ∧ AllMay (l.take i)))
  case atStart => exact ⟨0, none, 0, 0, [], rfl, rfl, rfl, by omega, OwnP.nil _ _, Below.refl _ _, trivial, rfl, fun g hg => (by cases hg), fun a ha => (by simp at ha)⟩
  case round =>
    obtain ⟨i, A', n', c', gs, rfl, rfl, hk, hi, hown, hbel, hints, hgs⟩ := hrel
    have Hk := Lib.hid hk
    clear hk
    by_cases hin : i < n
    · have hil : i < l.length := by rw [← Hn.out]; exact hin
      obtain ⟨ad, rfl, hb1, c0, c1⟩ := hr.at_ hil
      have c0' := (hbel.cell (p := ad.add (i * 2)) (by rw [block_of_add]; omega)).trans c0
      have c1' := (hbel.cell (p := ⟨(ad.add (i * 2)).block, (ad.add (i * 2)).off + 1, none⟩) (by show (ad.add (i * 2)).block < _; rw [block_of_add]; omega)).trans c1
      have hii : (i : Int) < (n : Int) := by omega
      have Hnt := Lib.hid (num_take hil)
      have hmem : l[i] ∈ l := List.getElem_mem hil
      have htk : l.take (i + 1) = l.take i ++ [l[i]] := List.take_succ_eq_append_getElem hil
      obtain ⟨a, ha⟩ : ∃ a, a = l[i] := ⟨_, rfl⟩
      rw [← ha] at c0 c1 c0' c1' Hnt hmem htk
      obtain ⟨ng, s⟩ := a
      have Hm := Lib.hid (And.intro hmem htk)
      clear c0 c1 hr ha hmem htk
      by_cases hmay : MayL ng s.data.toList
      · have hsz : s.size ≤ 16384 := by have := hmay.1; rw [show s.data.toList.length = s.size from Array.length_toList] at this; exact this
        have HC := Lib.hid (check_ok (w := wr.alloc (.cells #[.bool ng, .string s] 26)) hmay)
        have Hmay := Lib.hid hmay
        clear hmay
        go_wp2_with fail
        refine HC.out.mono ?_
        rintro e w2 ⟨rfl, hb2⟩
        have hbk := (Blk.new wr 26 #[.bool ng, .string s]).below hb2 (by simp)
        have d0 : w2.cell? ⟨wr.heap.size, 0, none⟩ = some (.bool ng) := hbk.cell 0
        have d1 : w2.cell? ⟨wr.heap.size, 1, none⟩ = some (.string s) := hbk.cell 1
        have hb2' : Below wr.heap.size wr w2 := ((Below.refl _ _).alloc (Nat.le_refl _) _).trans (hb2.mono (by simp))
        have hgr : wr.heap.size < w2.heap.size := hbk.lt
        clear hbk hb2
        go_wp2_with fail
        have hrd := bytes_reads (w2.alloc (.cells #[.bool false, .slice none 0 0] 82)) s
        rw [World.size_alloc] at hrd
        have hbb := bytes_below (w2.alloc (.cells #[.bool false, .slice none 0 0] 82)) s
        have hsl : s.data.toList.length = s.size := Array.length_toList
        have HS := Lib.hid (setbytes_any (c := grownCap (w2.alloc (.cells #[.bool false, .slice none 0 0] 82)) s.size 0 5) ((IntB.zero w2).slot.below hbb) hrd (Nat.le_refl _) hsl.symm (by omega))
        have hlen := len_mag Hmay.out.1
        have hlt := hints.lt
        clear hrd
        go_wp2_with fail
        refine HS.out.mono ?_
        rintro e w3 ⟨rfl, hi3, hg3⟩
        have hb23 : Below w2.heap.size w2 w3 := ((new_below w2 _).trans (hbb.mono (by simp))).grown hg3 (by rw [Lib.bytesWorld_size]; simp; omega) (fun k hk => by injection hk with hk; omega)
        have d0' := (hb23.cell (p := ⟨wr.heap.size, 0, none⟩) hgr).trans d0
        have hbr3 := hb2'.trans (hb23.mono hb2'.size)
        clear hbb HS hg3 hsl d0 d1
        cases ng
        · have d0 := trivial
          have d1 := trivial
          have hnum : (bval s.data.toList : Int) = num (false, s) := rfl
          rw [hnum] at hi3
          have Hi3 := Lib.hid hi3
          have hbw3 := hbel.trans (hbr3.mono hbel.size)
          have hown3 := hown.kept hbr3
          have hints3 := hints.keep (w' := w3) (fun g hg z hz => hz.below hbr3)
          have Hk3 := Lib.hid (And.intro hown3 (And.intro hints3 hbw3))
          have hle3 : w.heap.size ≤ w3.heap.size := hbw3.size
          have hgl : gs.length ≤ 1000000000 := by have := hgs.out.1; omega
          have hown4 := hown3
          clear hown hints hbw3 hown3 hints3 hi3 d0 d1
          go_wp2_with (at_builtin; refine wpP_push rfl (.tmp 32) (.tmp 34) rfl w.heap.size _ gs hown4 rfl (g := w2.heap.size) rfl hgl hle3 ?_; intro A7 n7 c7 w7 ho7 hkeep hg7; have H7 := Lib.hid (And.intro ho7 (And.intro (hkeep w Hk3.out.2.2) hg7)); clear ho7 hkeep hg7)
          go_roundg (n - (i + 1))
          case measure => have := Hk.out; omega
          case rel =>
            refine ⟨i + 1, A7, n7, c7, gs ++ [w2.heap.size], rfl, rfl, rfl, by omega, H7.out.1, H7.out.2.1, ?_, ?_⟩
            · rw [Hnt.out]
              refine (Hk3.out.2.1.snoc Hi3.out ?_).keep fun g _ z hz => hz.other H7.out.2.2 Hk3.out.1.row
              intro hin2
              have := hlt _ hin2
              omega
            · refine ⟨by rw [List.length_append, hgs.out.1]; rfl, fun g hg => ?_, ?_⟩
              · rcases List.mem_append.1 hg with h | h
                · exact hgs.out.2.1 g h
                · simp only [List.mem_singleton] at h
                  have := hbel.size
                  omega
              · intro a hin2
                rw [Hm.out.2] at hin2
                rcases List.mem_append.1 hin2 with h | h
                · exact hgs.out.2.2 a h
                · simp only [List.mem_singleton] at h
                  rw [h]
                  exact Hmay.out
        · have HN := Lib.hid (neg_any hi3.slot hi3 (by rw [Int.natAbs_natCast]; omega))
          have hsl3 := hi3.slot
          go_wp2_with fail
          refine HN.out.mono ?_
          rintro e w4 ⟨rfl, hi4, hg4⟩
          have hbr4 := up_row hbr3 hg4 hbr3.size (by omega)
          have d0 := trivial
          have d1 := trivial
          have hnum : -(bval s.data.toList : Int) = num (true, s) := rfl
          rw [hnum] at hi4
          clear hbr3 hi3 hsl3 HN hg4
          have Hi4 := Lib.hid hi4
          have hbw4 := hbel.trans (hbr4.mono hbel.size)
          have hown4 := hown.kept hbr4
          have hints4 := hints.keep (w' := w4) (fun g hg z hz => hz.below hbr4)
          have Hk4 := Lib.hid (And.intro hown4 (And.intro hints4 hbw4))
          have hle4 : w.heap.size ≤ w4.heap.size := hbw4.size
          have hgl : gs.length ≤ 1000000000 := by have := hgs.out.1; omega
          have hown4 := hown4
          clear hown hints hbw4 hown4 hints4 hi4 d0 d1
          go_wp2_with (at_builtin; refine wpP_push rfl (.tmp 32) (.tmp 34) rfl w.heap.size _ gs hown4 rfl (g := w2.heap.size) rfl hgl hle4 ?_; intro A7 n7 c7 w7 ho7 hkeep hg7; have H7 := Lib.hid (And.intro ho7 (And.intro (hkeep w Hk4.out.2.2) hg7)); clear ho7 hkeep hg7)
          go_roundg (n - (i + 1))
          case measure => have := Hk.out; omega
          case rel =>
            refine ⟨i + 1, A7, n7, c7, gs ++ [w2.heap.size], rfl, rfl, rfl, by omega, H7.out.1, H7.out.2.1, ?_, ?_⟩
            · rw [Hnt.out]
              refine (Hk4.out.2.1.snoc Hi4.out ?_).keep fun g _ z hz => hz.other H7.out.2.2 Hk4.out.1.row
              intro hin2
              have := hlt _ hin2
              omega
            · refine ⟨by rw [List.length_append, hgs.out.1]; rfl, fun g hg => ?_, ?_⟩
              · rcases List.mem_append.1 hg with h | h
                · exact hgs.out.2.1 g h
                · simp only [List.mem_singleton] at h
                  have := hbel.size
                  omega
              · intro a hin2
                rw [Hm.out.2] at hin2
                rcases List.mem_append.1 hin2 with h | h
                · exact hgs.out.2.2 a h
                · simp only [List.mem_singleton] at h
                  rw [h]
                  exact Hmay.out
      · have HC := Lib.hid (check_no (w := wr.alloc (.cells #[.bool ng, .string s] 26)) hmay)
        have hno : ¬ AllMay l := fun h => hmay (h _ Hm.out.1)
        have Hno := Lib.hid hno
        clear hmay hno
        go_wp2_with fail
        refine HC.out.mono ?_
        rintro e w2 ⟨rfl, hb2⟩
        have hb2' : Below wr.heap.size wr w2 := ((Below.refl _ _).alloc (Nat.le_refl _) _).trans (hb2.mono (by simp))
        go_wp2_with fail
        go_ret2
        exact ⟨fun h => absurd h Hno.out, fun _ => ⟨_, _, _, rfl, hbel.trans (hb2'.mono hbel.size)⟩⟩
    · have hi' : i = n := by omega
      have hii : (n : Int) ≤ (i : Int) := by omega
      have htl : l.take i = l := List.take_of_length_le (by rw [← Hn.out]; omega)
      rw [htl] at hints hgs
      have Hh := Lib.hid (And.intro hown (And.intro hints (And.intro hbel hi')))
      clear htl hi' hown hints hr
      go_wp2_with fail
      go_ret2
      refine ⟨fun _ => ⟨_, _, _, gs, rfl, ⟨Hh.out.1.len, by rw [hgs.out.1, List.length_map, ← Hn.out]; exact Hh.out.2.2.2⟩, Hh.out.1.reads, Hh.out.2.1, Hh.out.2.2.1, hgs.out.2.1⟩, fun h => absurd hgs.out.2.2 h⟩
end Go.Proofs.Ytpnginnjbdedbaa

/- whole.told, whole.Of. -/
namespace Go.Proofs.Ytpnginnjbdedbaa
open Go.RowKit
open Wh
set_option linter.unusedSimpArgs false

/-- a number as a value -/
def enc (z : Int) : Value := .agg #[.bool (decide (z < 0)), .string ⟨(bys z.natAbs).toArray⟩]
def none_ : Value := .agg #[.bool false, .string ⟨#[]⟩]
def fits (z : Int) : Prop := bl z.natAbs ≤ 131072
/-- what is told of a number -/
def Tells (w : World) (z : Int) (e : Ending) (w' : World) : Prop := (fits z → e = .returned (.tuple #[enc z, .int .i64 0])) ∧ (¬ fits z → e = .returned (.tuple #[none_, .int .i64 4])) ∧ Below w.heap.size w w'
theorem sg_neg (z : Int) : decide (sg z < 0) = decide (z < 0) := by
  unfold sg
  by_cases h0 : z = 0
  · subst h0; rfl
  · by_cases h1 : z < 0
    · simp [h0, h1]
    · simp [h0, h1]
set_option maxRecDepth 100000 in
set_option maxHeartbeats 4000000 in
theorem told_any {w : World} {gx : Nat} {z : Int} (hx : IntB w gx z) (hxl : (wds z.natAbs).length ≤ 100000000) :
    Calls Try.prog 64 #[.pointer (some ⟨gx, 0, none⟩)] w (Tells w z) := by
  have hb0 := new_below w (.cells #[.bool false, .string ⟨#[]⟩] 26)
  have hx1 := hx.below hb0
  have HB := Lib.hid (bitlen_any hx1 (by omega))
  unfold Bitted at HB
  obtain ⟨b, hb⟩ : ∃ b, b = bl z.natAbs := ⟨_, rfl⟩
  rw [← hb] at HB
  have Hb := Lib.hid hb
  have Hx := Lib.hid (And.intro hx1 (And.intro hxl hb0))
  by_cases hf : b ≤ 131072
  · have hfi : (b : Int) ≤ 131072 := by omega
    have Hf := Lib.hid (show fits z by unfold fits; rw [← hb]; exact hf)
    clear hb hx hx1 hxl hf hb0
    go_enter Try.func64, Try.ntmps64
    go_wp2_with fail
    refine HB.out.mono ?_
    rintro e w2 ⟨q, rfl, rfl⟩
    have HS := Lib.hid (sign_any (Hx.out.1.drewN q))
    obtain ⟨sv, hsv⟩ : ∃ sv, sv = sg z := ⟨_, rfl⟩
    rw [← hsv] at HS
    have Hsv := Lib.hid hsv
    clear hsv
    go_wp2_with fail
    refine HS.out.mono ?_
    rintro e w3 ⟨rfl, rfl⟩
    have HY := Lib.hid (bytes_any (m := z.natAbs) z rfl (Hx.out.1.drewN q) (by have := Hx.out.2.1; omega))
    go_wp2_with fail
    refine HY.out.mono ?_
    rintro e w4 ⟨A, n, rfl, hn, hr, hb4⟩
    have hstr := run_str (c := n) hn.out hr
    have hb24 : Below (w.alloc (.cells #[.bool false, .string ⟨#[]⟩] 26)).heap.size (w.alloc (.cells #[.bool false, .string ⟨#[]⟩] 26)) w4 := undrewN hb4
    have hbk := (Blk.new w 26 #[.bool false, .string ⟨#[]⟩]).below hb24 (by simp)
    have d0 := hbk.cell 0
    have d1 := hbk.cell 1
    have f0 := hbk.frozen 0
    have f1 := hbk.frozen 1
    have Hb24 := Lib.hid (And.intro hbk hb24)
    clear hbk hb24 hb4 hr
    go_wp2_with fail
    refine bodyPost_ret (v := .tuple #[.agg #[.bool (decide (sv < 0)), .string ⟨(bys z.natAbs).toArray⟩], .int .i64 0]) (by simp [results, Try.results64, go_sem, d0, d1]) rfl ?_
    refine ⟨fun _ => ?_, fun h => absurd Hf.out h, ?_⟩
    · unfold enc
      rw [Hsv.out, sg_neg]
    · exact ((Hx.out.2.2.trans (Hb24.out.2.mono (by simp))).setCell (Nat.le_refl _) _).setCell (Nat.le_refl _) _
  · have hfi : (131072 : Int) < (b : Int) := by omega
    have Hf := Lib.hid (show ¬ fits z by unfold fits; rw [← hb]; exact hf)
    have hbk := Blk.new w 26 #[.bool false, .string ⟨#[]⟩]
    clear hb hx hx1 hxl hf
    go_enter Try.func64, Try.ntmps64
    go_wp2_with fail
    refine HB.out.mono ?_
    rintro e w2 ⟨q, rfl, rfl⟩
    have d0 := (hbk.drewN q).cell 0
    have d1 := (hbk.drewN q).cell 1
    go_wp2_with fail
    refine bodyPost_ret (v := .tuple #[.agg #[.bool false, .string ⟨#[]⟩], .int .i64 4]) (by simp [results, Try.results64, go_sem, d0, d1]) rfl ?_
    refine ⟨fun h => absurd h Hf.out, fun _ => rfl, ?_⟩
    exact ((below_drewN hb0 q).setCell (Nat.le_refl _) _).setCell (Nat.le_refl _) _

theorem bl_small {m : Nat} (h : m ≤ 18446744073709551615) : bl m ≤ 131072 := Nat.le_trans ((bl_lt (k := 64)).2 (by omega)) (by omega)
set_option maxRecDepth 100000 in
set_option maxHeartbeats 800000 in
theorem of64_any {w : World} {n : Int} (h1 : -9223372036854775808 ≤ n) (h2 : n ≤ 9223372036854775807) :
    Calls Try.prog 41 #[.int .i64 n] w (Told w (enc n)) := by
  have hb0 := new_below w (.cells #[.bool false, .string ⟨#[]⟩] 26)
  have HN := Lib.hid (newint_any (w := w.alloc (.cells #[.bool false, .string ⟨#[]⟩] 26)) h1 h2)
  have Hf := Lib.hid (show fits n from bl_small (by omega))
  have hlen : (wds n.natAbs).length ≤ 2 := len_wds (k := 2) (by omega)
  unfold enc
  obtain ⟨sn, hsn⟩ : ∃ sn : Bool, sn = decide (n < 0) := ⟨_, rfl⟩
  obtain ⟨bn, hbn⟩ : ∃ bn : ByteArray, bn = ⟨(bys n.natAbs).toArray⟩ := ⟨_, rfl⟩
  rw [← hsn, ← hbn]
  have He := Lib.hid (show enc n = .agg #[.bool sn, .string bn] by unfold enc; rw [hsn, hbn])
  have Hlen := Lib.hid hlen
  clear hsn hbn h1 h2 hlen
  go_enter Try.func41, Try.ntmps41
  go_wp2_with fail
  refine HN.out.mono ?_
  rintro e w1 ⟨rfl, hi1, hb1⟩
  rw [World.size_alloc] at hi1
  have HT := Lib.hid (told_any hi1 (by have := Hlen.out; omega))
  have hbk := (Blk.new w 26 #[.bool false, .string ⟨#[]⟩]).below hb1 (by simp)
  clear hi1
  go_wp2_with fail
  refine HT.out.mono ?_
  rintro e w2 ⟨h1, h2, hb2⟩
  have h1' := h1 Hf.out
  rw [He.out] at h1'
  subst h1'
  have hbk2 := hbk.below hb2 hbk.lt
  have hlt2 := hbk2.lt
  have d0 : w2.cell? ⟨w.heap.size, 0, none⟩ = some (.bool false) := hbk2.cell 0
  have d1 : w2.cell? ⟨w.heap.size, 1, none⟩ = some (.string ⟨#[]⟩) := hbk2.cell 1
  have f0 := hbk2.frozen 0
  have f1 := hbk2.frozen 1
  have hb12 : Below w.heap.size w w2 := hb0.trans ((hb1.mono (by simp)).trans (hb2.mono (by have := hb1.size; simp at this; omega)))
  clear hbk hbk2 hb1 hb2 h1 h2
  go_wp2_with fail
  refine bodyPost_ret (v := .agg #[.bool sn, .string bn]) (by simp [results, Try.results41, go_sem, d0, d1, hlt2]) rfl ⟨rfl, ?_⟩
  exact ((hb12.setCell (Nat.le_refl _) _).setCell (Nat.le_refl _) _).alloc (by simp; omega) _
end Go.Proofs.Ytpnginnjbdedbaa

/- whole.two, Add, Sub, Mul (printed by gen_two.py). -/
namespace Go.Proofs.Ytpnginnjbdedbaa
open Go.RowKit
open Wh
set_option linter.unusedSimpArgs false

theorem blk_pair {w : World} (a b : Bool × ByteArray) : ReadsWh (w.alloc (.cells #[.bool a.1, .string a.2, .bool b.1, .string b.2] 26)) (w.heap.size + 1) (some ⟨w.heap.size, 0, none⟩) [a, b] := by
  refine ⟨rfl, fun _ => ⟨_, rfl, Nat.lt_succ_self _, fun j u hu => ?_⟩⟩
  rw [Addr.add_lit, Nat.zero_add, (Blk.new w 26 #[.bool a.1, .string a.2, .bool b.1, .string b.2]).cell j]
  rw [← hu]
  match j with
  | 0 => rfl
  | 1 => rfl
  | 2 => rfl
  | 3 => rfl
  | _ + 4 => rfl
/-- what is answered: a number, or it is too great, or it is refused -/
def Ans (w : World) (ok : Prop) (z : Int) (e : Ending) (w' : World) : Prop := (ok → fits z → e = .returned (.tuple #[enc z, .int .i64 0])) ∧ (ok → ¬ fits z → e = .returned (.tuple #[none_, .int .i64 4])) ∧ (¬ ok → e = .returned (.tuple #[none_, .int .i64 2])) ∧ Below w.heap.size w w'
def May2 (a b : Bool × ByteArray) : Prop := MayL a.1 a.2.data.toList ∧ MayL b.1 b.2.data.toList
theorem may2_all {a b : Bool × ByteArray} : AllMay [a, b] ↔ May2 a b := by
  unfold AllMay May2
  simp
theorem ints_two {w : World} {gs : List Nat} {x y : Int} (h : Ints w gs [x, y]) : ∃ g1 g2, gs = [g1, g2] ∧ IntB w g1 x ∧ IntB w g2 y ∧ g1 ≠ g2 := by
  match gs, h with
  | [g1, g2], ⟨h1, h2, h3, _, _⟩ => exact ⟨g1, g2, rfl, h1, h3, by simpa using h2⟩
  | [], h => exact h.elim
  | [_], ⟨_, _, h⟩ => exact h.elim
  | _ :: _ :: _ :: _, ⟨_, _, _, _, h⟩ => exact h.elim
theorem len_num {a : Bool × ByteArray} (h : MayL a.1 a.2.data.toList) : (wds (num a).natAbs).length ≤ 5000 := by
  unfold num
  rw [sgn_abs]
  exact len_mag h.1
/-- what an operation of numbers does -/
def Does (F : Nat) (op : Int → Int → Int) : Prop := ∀ (w : World) (g gx gy : Nat) (x y : Int), IntS w g → IntB w gx x → IntB w gy y → (wds x.natAbs).length ≤ 5000 → (wds y.natAbs).length ≤ 5000 →
  Calls Try.prog F #[.pointer (some ⟨g, 0, none⟩), .pointer (some ⟨gx, 0, none⟩), .pointer (some ⟨gy, 0, none⟩)] w (Puts w g (op x y))

set_option maxRecDepth 100000 in
set_option maxHeartbeats 4000000 in
theorem two63_any {w : World} {na nb : Bool} {sa sb : ByteArray} {op : Int → Int → Int} (hF : Does 63 op) (hop : ∀ x y : Int, (wds x.natAbs).length ≤ 5000 → (wds y.natAbs).length ≤ 5000 → (wds (op x y).natAbs).length ≤ 100000) :
    Calls Try.prog 80 #[.agg #[.bool na, .string sa], .agg #[.bool nb, .string sb], .func (.func 63) #[] #[]] w (Ans w (May2 (na, sa) (nb, sb)) (op (num (na, sa)) (num (nb, sb)))) := by
  have hb1 := new_below w (.cells #[.bool na, .string sa] 26)
  have hb2 := hb1.alloc (by simp) (.cells #[.bool nb, .string sb] 26)
  have hb3 := hb2.alloc (by simp; omega) (.cells #[.bool false, .string ⟨#[]⟩] 26)
  have hb4 := hb3.alloc (by simp; omega) (.cells #[.bool na, .string sa, .bool nb, .string sb] 26)
  obtain ⟨W3, hW3⟩ : ∃ W3, W3 = ((w.alloc (.cells #[.bool na, .string sa] 26)).alloc (.cells #[.bool nb, .string sb] 26)).alloc (.cells #[.bool false, .string ⟨#[]⟩] 26) := ⟨_, rfl⟩
  have hsz3 : W3.heap.size = w.heap.size + 1 + 1 + 1 := by rw [hW3]; simp
  have hO := ofs_any (c := 2) (n := 2) (blk_pair (w := W3) (na, sa) (nb, sb)) (by simp) rfl (by omega)
  have hbk := (Blk.new ((w.alloc (.cells #[.bool na, .string sa] 26)).alloc (.cells #[.bool nb, .string sb] 26)) 26 #[.bool false, .string ⟨#[]⟩])
  rw [← hW3] at hb4 hbk
  have hbk2 : Blk (W3.alloc (.cells #[.bool na, .string sa, .bool nb, .string sb] 26)) (w.heap.size + 1 + 1) 26 #[.bool false, .string ⟨#[]⟩] := by
    have := hbk.alloc (.cells #[.bool na, .string sa, .bool nb, .string sb] 26)
    simpa using this
  rw [hsz3] at hO
  have hsz4 : (W3.alloc (.cells #[.bool na, .string sa, .bool nb, .string sb] 26)).heap.size = w.heap.size + 1 + 1 + 1 + 1 := by rw [World.size_alloc, hsz3]
  rw [hW3] at hO hb4 hbk2 hsz4
  have HO := Lib.hid hO
  have Hb := Lib.hid (And.intro hb4 (And.intro hbk2 hsz4))
  have HF := Lib.hid (And.intro hF hop)
  clear hO hb1 hb2 hb3 hb4 hW3 hsz3 hbk hbk2 hsz4 hF hop
  by_cases hm : May2 (na, sa) (nb, sb)
  · obtain ⟨z, hz⟩ : ∃ z, z = op (num (na, sa)) (num (nb, sb)) := ⟨_, rfl⟩
    rw [← hz]
    have Hm := Lib.hid (And.intro hm hz)
    obtain ⟨sn, bn, cd, hres⟩ : ∃ (sn : Bool) (bn : ByteArray) (cd : Int), (fits z → enc z = .agg #[.bool sn, .string bn] ∧ cd = 0) ∧ (¬ fits z → none_ = .agg #[.bool sn, .string bn] ∧ cd = 4) := by
      by_cases hf : fits z
      · exact ⟨_, _, 0, fun _ => ⟨rfl, rfl⟩, fun h => absurd hf h⟩
      · exact ⟨_, _, 4, fun h => absurd h hf, fun _ => ⟨rfl, rfl⟩⟩
    have hAns : Ans w (May2 (na, sa) (nb, sb)) z (.returned (.tuple #[.agg #[.bool sn, .string bn], .int .i64 cd])) = Ans w (May2 (na, sa) (nb, sb)) z (.returned (.tuple #[.agg #[.bool sn, .string bn], .int .i64 cd])) := rfl
    have Hres := Lib.hid hres
    clear hz hm hAns hres
    go_enter Try.func80, Try.ntmps80
    go_wp2_with fail
    refine HO.out.mono ?_
    rintro e w5 ⟨h1, h2⟩
    obtain ⟨A5, n5, c5, gs, rfl, hn5, hr5, hi5, hb5, hge⟩ := h1 (may2_all.2 Hm.out.1)
    obtain ⟨g1, g2, rfl, hx, hy, hne⟩ := ints_two hi5
    obtain ⟨ad, rfl, hadb, p0⟩ := hr5.at_ (k := 0) (by simp)
    obtain ⟨ad', e', _, p1⟩ := hr5.at_ (k := 1) (by simp)
    injection e' with e'
    subst e'
    rw [Addr.add_zero'] at p0
    rw [add_pos (by decide)] at p1
    have p0' : w5.cell? ad = some (.pointer (some ⟨g1, 0, none⟩)) := p0
    have p1' : w5.cell? ⟨ad.block, ad.off + 1, none⟩ = some (.pointer (some ⟨g2, 0, none⟩)) := p1
    obtain rfl : n5 = 2 := hn5.out.1
    have hblk5 := Hb.out.2.1.below hb5 (by rw [Hb.out.2.2]; omega)
    have hb05 := Hb.out.1.trans (hb5.mono (by rw [Hb.out.2.2]; omega))
    have hsz5 : w.heap.size + 1 + 1 + 1 + 1 ≤ w5.heap.size := by have := hb5.size; rw [Hb.out.2.2] at this; exact this
    have H5 := Lib.hid (And.intro hb05 (And.intro hx (And.intro hy hblk5)))
    clear h1 h2 hr5 hi5 hge hb5 p0 p1 hne hb05 hx hy hblk5
    go_wp2_with fail
    have hba : Below w5.heap.size w5 (w5.drew.alloc (.cells #[.bool false, .slice none 0 0] 82)) := (Below.refl _ _).drew.alloc (Nat.le_refl _) _
    have hxa := H5.out.2.1.below hba
    have hya := H5.out.2.2.1.below hba
    have HC := Lib.hid (HF.out.1 _ w5.heap.size g1 g2 _ _ (IntB.zero w5.drew).slot hxa hya (len_num Hm.out.1.1) (len_num Hm.out.1.2))
    have hcell : ∀ w' : World, Below w5.heap.size w5 w' → w'.cell? ad = some (.pointer (some ⟨g1, 0, none⟩)) ∧ w'.cell? ⟨ad.block, ad.off + 1, none⟩ = some (.pointer (some ⟨g2, 0, none⟩)) := fun w' hb => ⟨(hb.cell hadb).trans p0', (hb.cell (p := ⟨ad.block, ad.off + 1, none⟩) hadb).trans p1'⟩
    have hla := hba.size
    have Hba := Lib.hid hba
    have Hcell := Lib.hid hcell
    clear hcell hba
    refine wp_region_noPanic ?_
    refine wp_region_HK (fun w' => w'.cell? ad = some (.pointer (some ⟨g1, 0, none⟩)) ∧ w'.cell? ⟨ad.block, ad.off + 1, none⟩ = some (.pointer (some ⟨g2, 0, none⟩))) 12 (by kernel_rfl) ⟨p0', p1'⟩ (fun hHeld => ?_)
    refine wpHK_take (i := 0) (oi := Oper.mk (some 20) _ _ _ _ _) (v := ?_) rfl (by kernel_rfl) (by kernel_rfl) (by kernel_rfl) (by kernel_rfl) (fun _ _ _ h => h) (Or.inl ⟨by rfl, ?_⟩) (by assumption) ?_
    rotate_left
    · (intro w' hSw; (try dsimp only at hSw); (obtain ⟨s1, s2⟩ := hSw); go_simp; try with_reducible rfl)
    try simp only [Act.put, List.setIfInBounds_toArray, List.set_cons_zero, List.set_cons_succ]
    refine wpHK_take (i := 2) (oi := Oper.mk (some 22) _ _ _ _ _) (v := ?_) rfl (by kernel_rfl) (by kernel_rfl) (by kernel_rfl) (by kernel_rfl) (fun _ _ _ h => h) (Or.inl ⟨by rfl, ?_⟩) (by assumption) ?_
    rotate_left
    · (intro w' hSw; (try dsimp only at hSw); (obtain ⟨s1, s2⟩ := hSw); go_simp; try with_reducible rfl)
    try simp only [Act.put, List.setIfInBounds_toArray, List.set_cons_zero, List.set_cons_succ]
    refine wpHK_take (i := 3) (oi := Oper.mk (some 23) _ _ _ _ _) (v := ?_) rfl (by kernel_rfl) (by kernel_rfl) (by kernel_rfl) (by kernel_rfl) (fun _ _ _ h => h) (Or.inl ⟨by rfl, ?_⟩) (by assumption) ?_
    rotate_left
    · (intro w' hSw; (try dsimp only at hSw); (obtain ⟨s1, s2⟩ := hSw); go_simp; try with_reducible rfl)
    try simp only [Act.put, List.setIfInBounds_toArray, List.set_cons_zero, List.set_cons_succ]
    refine wpHK_take (i := 4) (oi := Oper.mk (some 24) _ _ _ _ _) (v := ?_) rfl (by kernel_rfl) (by kernel_rfl) (by kernel_rfl) (by kernel_rfl) (fun _ _ _ h => h) (Or.inl ⟨by rfl, ?_⟩) (by assumption) ?_
    rotate_left
    · (intro w' hSw; (try dsimp only at hSw); (obtain ⟨s1, s2⟩ := hSw); go_simp; try with_reducible rfl)
    try simp only [Act.put, List.setIfInBounds_toArray, List.set_cons_zero, List.set_cons_succ]
    refine wpHK_take (i := 5) (oi := Oper.mk (some 25) _ _ _ _ _) (v := ?_) rfl (by kernel_rfl) (by kernel_rfl) (by kernel_rfl) (by kernel_rfl) (fun _ _ _ h => h) (Or.inl ⟨by rfl, ?_⟩) (by assumption) ?_
    rotate_left
    · (intro w' hSw; (try dsimp only at hSw); (obtain ⟨s1, s2⟩ := hSw); go_simp; try with_reducible rfl)
    try simp only [Act.put, List.setIfInBounds_toArray, List.set_cons_zero, List.set_cons_succ]
    refine wpHK_take (i := 6) (oi := Oper.mk (some 26) _ _ _ _ _) (v := ?_) rfl (by kernel_rfl) (by kernel_rfl) (by kernel_rfl) (by kernel_rfl) (fun _ _ _ h => h) (Or.inl ⟨by rfl, ?_⟩) (by assumption) ?_
    rotate_left
    · (intro w' hSw; (try dsimp only at hSw); (obtain ⟨s1, s2⟩ := hSw); go_simp; try with_reducible rfl)
    try simp only [Act.put, List.setIfInBounds_toArray, List.set_cons_zero, List.set_cons_succ]
    refine wpHK_take (i := 7) (oi := Oper.mk (some 27) _ _ _ _ _) (v := ?_) rfl (by kernel_rfl) (by kernel_rfl) (by kernel_rfl) (by kernel_rfl) (fun _ _ _ h => h) (Or.inl ⟨by rfl, ?_⟩) (by assumption) ?_
    rotate_left
    · (intro w' hSw; (try dsimp only at hSw); (obtain ⟨s1, s2⟩ := hSw); go_simp; try with_reducible rfl)
    try simp only [Act.put, List.setIfInBounds_toArray, List.set_cons_zero, List.set_cons_succ]
    refine wpHK_one (j := 1) (o := Oper.mk (some 21) _ _ _ _ _) rfl (by kernel_rfl) (fun K hK => ?_)
    go_simp
    try simp only []
    refine hK.out _ _ (Hcell.out _ Hba.out) (fun _ => ?_)
    clear hK K hHeld
    have hHeld := (Hcell.out _ Hba.out)
    try simp only [Act.put, List.setIfInBounds_toArray, List.set_cons_zero, List.set_cons_succ]
    refine wpHK_one (j := 8) (o := Oper.mk (some 28) _ _ _ _ _) rfl (by kernel_rfl) (fun K hK => ?_)
    go_simp
    refine HC.out.mono ?_
    rintro e w6 ⟨rfl, hi6, hg6⟩
    try simp only []
    rw [← Hm.out.2] at hi6
    have hb56 := up_row Hba.out hg6 hla (Nat.le_refl _)
    have HT := Lib.hid (told_any hi6 (by rw [Hm.out.2]; exact Nat.le_trans (HF.out.2 _ _ (len_num Hm.out.1.1) (len_num Hm.out.1.2)) (by omega)))
    refine hK.out _ _ (Hcell.out _ hb56) (fun _ => ?_)
    clear hK K hHeld
    have hHeld := (Hcell.out _ hb56)
    try simp only [Act.put, List.setIfInBounds_toArray, List.set_cons_zero, List.set_cons_succ]
    refine wpHK_one (j := 9) (o := Oper.mk (some 29) _ _ _ _ _) rfl (by kernel_rfl) (fun K hK => ?_)
    go_simp
    refine HT.out.mono ?_
    rintro e w7 ⟨t1, t2, hb7⟩
    have hb57 := hb56.trans (hb7.mono hb56.size)
    have he : e = .returned (.tuple #[.agg #[.bool sn, .string bn], .int .i64 cd]) := by
      by_cases hf : fits z
      · rw [t1 hf, (Hres.out.1 hf).1, (Hres.out.1 hf).2]
      · rw [t2 hf, (Hres.out.2 hf).1, (Hres.out.2 hf).2]
    subst he
    have hblk7 := H5.out.2.2.2.below hb57 (by omega)
    have d0 : w7.cell? ⟨w.heap.size + 1 + 1, 0, none⟩ = some (.bool false) := hblk7.cell 0
    have d1 : w7.cell? ⟨w.heap.size + 1 + 1, 1, none⟩ = some (.string ⟨#[]⟩) := hblk7.cell 1
    have f0 := hblk7.frozen 0
    have f1 := hblk7.frozen 1
    have Hb57 := Lib.hid hb57
    clear t1 t2 hb7 hblk7
    try simp only []
    refine hK.out _ _ (Hcell.out _ Hb57.out) (fun _ => ?_)
    clear hK K hHeld
    have hHeld := (Hcell.out _ Hb57.out)
    try simp only [Act.put, List.setIfInBounds_toArray, List.set_cons_zero, List.set_cons_succ]
    refine wpHK_take (i := 10) (oi := Oper.mk (some 30) _ _ _ _ _) (v := ?_) rfl (by kernel_rfl) (by kernel_rfl) (by kernel_rfl) (by kernel_rfl) (fun _ _ _ h => h) (Or.inl ⟨by rfl, ?_⟩) (by assumption) ?_
    rotate_left
    · (intro w' hSw; (try dsimp only at hSw); (obtain ⟨s1, s2⟩ := hSw); go_simp; try with_reducible rfl)
    try simp only [Act.put, List.setIfInBounds_toArray, List.set_cons_zero, List.set_cons_succ]
    refine wpHK_take (i := 11) (oi := Oper.mk (some 31) _ _ _ _ _) (v := ?_) rfl (by kernel_rfl) (by kernel_rfl) (by kernel_rfl) (by kernel_rfl) (fun _ _ _ h => h) (Or.inl ⟨by rfl, ?_⟩) (by assumption) ?_
    rotate_left
    · (intro w' hSw; (try dsimp only at hSw); (obtain ⟨s1, s2⟩ := hSw); go_simp; try with_reducible rfl)
    try simp only [Act.put, List.setIfInBounds_toArray, List.set_cons_zero, List.set_cons_succ]
    refine wpHK_tail (j := 12) (o := Oper.mk (none) _ _ _ _ _) rfl (by kernel_rfl) (by decide) (fun K hK => ?_)
    go_simp
    refine hK.out _ _ ?_
    clear hK K
    try simp only [Act.put, List.setIfInBounds_toArray, List.set_cons_zero, List.set_cons_succ]
    refine wpHK_pure (i := 13) (oi := Oper.mk (some 7) _ _ _ _ _) (v := ?_) rfl (by kernel_rfl) (by kernel_rfl) (by kernel_rfl) (fun _ _ _ h => h) (Or.inl ⟨by rfl, ?_⟩) ?_
    rotate_left
    · (intro w' _; go_simp; try with_reducible rfl)
    try simp only [Act.put, List.setIfInBounds_toArray, List.set_cons_zero, List.set_cons_succ]
    refine wpHK_done (by kernel_rfl) ?_ _
    refine NoPanic.normal ?_
    go_wp2_with fail
    refine bodyPost_ret (v := .tuple #[.agg #[.bool sn, .string bn], .int .i64 cd]) (by simp [results, Try.results80, go_sem, d0, d1]) rfl ?_
    refine ⟨fun _ hf => by rw [(Hres.out.1 hf).1, (Hres.out.1 hf).2], fun _ hf => by rw [(Hres.out.2 hf).1, (Hres.out.2 hf).2], fun h => absurd Hm.out.1 h, ?_⟩
    exact ((H5.out.1.trans (Hb57.out.mono (by omega))).setCell (by show w.heap.size ≤ w.heap.size + 1 + 1; omega) _).setCell (by show w.heap.size ≤ w.heap.size + 1 + 1; omega) _
  · have Hm := Lib.hid hm
    clear hm
    go_enter Try.func80, Try.ntmps80
    go_wp2_with fail
    refine HO.out.mono ?_
    rintro e w5 ⟨h1, h2⟩
    obtain ⟨A5, n5, c5, rfl, hb5⟩ := h2 (fun h => Hm.out (may2_all.1 h))
    have hblk5 := Hb.out.2.1.below hb5 (by rw [Hb.out.2.2]; omega)
    have hb05 := Hb.out.1.trans (hb5.mono (by rw [Hb.out.2.2]; omega))
    have d0 : w5.cell? ⟨w.heap.size + 1 + 1, 0, none⟩ = some (.bool false) := hblk5.cell 0
    have d1 : w5.cell? ⟨w.heap.size + 1 + 1, 1, none⟩ = some (.string ⟨#[]⟩) := hblk5.cell 1
    have f0 := hblk5.frozen 0
    have f1 := hblk5.frozen 1
    clear h1 h2 hb5 hblk5
    go_wp2_with fail
    refine bodyPost_ret (v := .tuple #[.agg #[.bool false, .string ⟨#[]⟩], .int .i64 2]) (by simp [results, Try.results80, go_sem, d0, d1]) rfl ?_
    refine ⟨fun h => absurd h Hm.out, fun h => absurd h Hm.out, fun _ => rfl, ?_⟩
    exact (hb05.setCell (by show w.heap.size ≤ w.heap.size + 1 + 1; omega) _).setCell (by show w.heap.size ≤ w.heap.size + 1 + 1; omega) _
set_option maxRecDepth 100000 in
set_option maxHeartbeats 4000000 in
theorem two81_any {w : World} {na nb : Bool} {sa sb : ByteArray} {op : Int → Int → Int} (hF : Does 81 op) (hop : ∀ x y : Int, (wds x.natAbs).length ≤ 5000 → (wds y.natAbs).length ≤ 5000 → (wds (op x y).natAbs).length ≤ 100000) :
    Calls Try.prog 80 #[.agg #[.bool na, .string sa], .agg #[.bool nb, .string sb], .func (.func 81) #[] #[]] w (Ans w (May2 (na, sa) (nb, sb)) (op (num (na, sa)) (num (nb, sb)))) := by
  have hb1 := new_below w (.cells #[.bool na, .string sa] 26)
  have hb2 := hb1.alloc (by simp) (.cells #[.bool nb, .string sb] 26)
  have hb3 := hb2.alloc (by simp; omega) (.cells #[.bool false, .string ⟨#[]⟩] 26)
  have hb4 := hb3.alloc (by simp; omega) (.cells #[.bool na, .string sa, .bool nb, .string sb] 26)
  obtain ⟨W3, hW3⟩ : ∃ W3, W3 = ((w.alloc (.cells #[.bool na, .string sa] 26)).alloc (.cells #[.bool nb, .string sb] 26)).alloc (.cells #[.bool false, .string ⟨#[]⟩] 26) := ⟨_, rfl⟩
  have hsz3 : W3.heap.size = w.heap.size + 1 + 1 + 1 := by rw [hW3]; simp
  have hO := ofs_any (c := 2) (n := 2) (blk_pair (w := W3) (na, sa) (nb, sb)) (by simp) rfl (by omega)
  have hbk := (Blk.new ((w.alloc (.cells #[.bool na, .string sa] 26)).alloc (.cells #[.bool nb, .string sb] 26)) 26 #[.bool false, .string ⟨#[]⟩])
  rw [← hW3] at hb4 hbk
  have hbk2 : Blk (W3.alloc (.cells #[.bool na, .string sa, .bool nb, .string sb] 26)) (w.heap.size + 1 + 1) 26 #[.bool false, .string ⟨#[]⟩] := by
    have := hbk.alloc (.cells #[.bool na, .string sa, .bool nb, .string sb] 26)
    simpa using this
  rw [hsz3] at hO
  have hsz4 : (W3.alloc (.cells #[.bool na, .string sa, .bool nb, .string sb] 26)).heap.size = w.heap.size + 1 + 1 + 1 + 1 := by rw [World.size_alloc, hsz3]
  rw [hW3] at hO hb4 hbk2 hsz4
  have HO := Lib.hid hO
  have Hb := Lib.hid (And.intro hb4 (And.intro hbk2 hsz4))
  have HF := Lib.hid (And.intro hF hop)
  clear hO hb1 hb2 hb3 hb4 hW3 hsz3 hbk hbk2 hsz4 hF hop
  by_cases hm : May2 (na, sa) (nb, sb)
  · obtain ⟨z, hz⟩ : ∃ z, z = op (num (na, sa)) (num (nb, sb)) := ⟨_, rfl⟩
    rw [← hz]
    have Hm := Lib.hid (And.intro hm hz)
    obtain ⟨sn, bn, cd, hres⟩ : ∃ (sn : Bool) (bn : ByteArray) (cd : Int), (fits z → enc z = .agg #[.bool sn, .string bn] ∧ cd = 0) ∧ (¬ fits z → none_ = .agg #[.bool sn, .string bn] ∧ cd = 4) := by
      by_cases hf : fits z
      · exact ⟨_, _, 0, fun _ => ⟨rfl, rfl⟩, fun h => absurd hf h⟩
      · exact ⟨_, _, 4, fun h => absurd h hf, fun _ => ⟨rfl, rfl⟩⟩
    have hAns : Ans w (May2 (na, sa) (nb, sb)) z (.returned (.tuple #[.agg #[.bool sn, .string bn], .int .i64 cd])) = Ans w (May2 (na, sa) (nb, sb)) z (.returned (.tuple #[.agg #[.bool sn, .string bn], .int .i64 cd])) := rfl
    have Hres := Lib.hid hres
    clear hz hm hAns hres
    go_enter Try.func80, Try.ntmps80
    go_wp2_with fail
    refine HO.out.mono ?_
    rintro e w5 ⟨h1, h2⟩
    obtain ⟨A5, n5, c5, gs, rfl, hn5, hr5, hi5, hb5, hge⟩ := h1 (may2_all.2 Hm.out.1)
    obtain ⟨g1, g2, rfl, hx, hy, hne⟩ := ints_two hi5
    obtain ⟨ad, rfl, hadb, p0⟩ := hr5.at_ (k := 0) (by simp)
    obtain ⟨ad', e', _, p1⟩ := hr5.at_ (k := 1) (by simp)
    injection e' with e'
    subst e'
    rw [Addr.add_zero'] at p0
    rw [add_pos (by decide)] at p1
    have p0' : w5.cell? ad = some (.pointer (some ⟨g1, 0, none⟩)) := p0
    have p1' : w5.cell? ⟨ad.block, ad.off + 1, none⟩ = some (.pointer (some ⟨g2, 0, none⟩)) := p1
    obtain rfl : n5 = 2 := hn5.out.1
    have hblk5 := Hb.out.2.1.below hb5 (by rw [Hb.out.2.2]; omega)
    have hb05 := Hb.out.1.trans (hb5.mono (by rw [Hb.out.2.2]; omega))
    have hsz5 : w.heap.size + 1 + 1 + 1 + 1 ≤ w5.heap.size := by have := hb5.size; rw [Hb.out.2.2] at this; exact this
    have H5 := Lib.hid (And.intro hb05 (And.intro hx (And.intro hy hblk5)))
    clear h1 h2 hr5 hi5 hge hb5 p0 p1 hne hb05 hx hy hblk5
    go_wp2_with fail
    have hba : Below w5.heap.size w5 (w5.drew.alloc (.cells #[.bool false, .slice none 0 0] 82)) := (Below.refl _ _).drew.alloc (Nat.le_refl _) _
    have hxa := H5.out.2.1.below hba
    have hya := H5.out.2.2.1.below hba
    have HC := Lib.hid (HF.out.1 _ w5.heap.size g1 g2 _ _ (IntB.zero w5.drew).slot hxa hya (len_num Hm.out.1.1) (len_num Hm.out.1.2))
    have hcell : ∀ w' : World, Below w5.heap.size w5 w' → w'.cell? ad = some (.pointer (some ⟨g1, 0, none⟩)) ∧ w'.cell? ⟨ad.block, ad.off + 1, none⟩ = some (.pointer (some ⟨g2, 0, none⟩)) := fun w' hb => ⟨(hb.cell hadb).trans p0', (hb.cell (p := ⟨ad.block, ad.off + 1, none⟩) hadb).trans p1'⟩
    have hla := hba.size
    have Hba := Lib.hid hba
    have Hcell := Lib.hid hcell
    clear hcell hba
    refine wp_region_noPanic ?_
    refine wp_region_HK (fun w' => w'.cell? ad = some (.pointer (some ⟨g1, 0, none⟩)) ∧ w'.cell? ⟨ad.block, ad.off + 1, none⟩ = some (.pointer (some ⟨g2, 0, none⟩))) 12 (by kernel_rfl) ⟨p0', p1'⟩ (fun hHeld => ?_)
    refine wpHK_take (i := 0) (oi := Oper.mk (some 20) _ _ _ _ _) (v := ?_) rfl (by kernel_rfl) (by kernel_rfl) (by kernel_rfl) (by kernel_rfl) (fun _ _ _ h => h) (Or.inl ⟨by rfl, ?_⟩) (by assumption) ?_
    rotate_left
    · (intro w' hSw; (try dsimp only at hSw); (obtain ⟨s1, s2⟩ := hSw); go_simp; try with_reducible rfl)
    try simp only [Act.put, List.setIfInBounds_toArray, List.set_cons_zero, List.set_cons_succ]
    refine wpHK_take (i := 2) (oi := Oper.mk (some 22) _ _ _ _ _) (v := ?_) rfl (by kernel_rfl) (by kernel_rfl) (by kernel_rfl) (by kernel_rfl) (fun _ _ _ h => h) (Or.inl ⟨by rfl, ?_⟩) (by assumption) ?_
    rotate_left
    · (intro w' hSw; (try dsimp only at hSw); (obtain ⟨s1, s2⟩ := hSw); go_simp; try with_reducible rfl)
    try simp only [Act.put, List.setIfInBounds_toArray, List.set_cons_zero, List.set_cons_succ]
    refine wpHK_take (i := 3) (oi := Oper.mk (some 23) _ _ _ _ _) (v := ?_) rfl (by kernel_rfl) (by kernel_rfl) (by kernel_rfl) (by kernel_rfl) (fun _ _ _ h => h) (Or.inl ⟨by rfl, ?_⟩) (by assumption) ?_
    rotate_left
    · (intro w' hSw; (try dsimp only at hSw); (obtain ⟨s1, s2⟩ := hSw); go_simp; try with_reducible rfl)
    try simp only [Act.put, List.setIfInBounds_toArray, List.set_cons_zero, List.set_cons_succ]
    refine wpHK_take (i := 4) (oi := Oper.mk (some 24) _ _ _ _ _) (v := ?_) rfl (by kernel_rfl) (by kernel_rfl) (by kernel_rfl) (by kernel_rfl) (fun _ _ _ h => h) (Or.inl ⟨by rfl, ?_⟩) (by assumption) ?_
    rotate_left
    · (intro w' hSw; (try dsimp only at hSw); (obtain ⟨s1, s2⟩ := hSw); go_simp; try with_reducible rfl)
    try simp only [Act.put, List.setIfInBounds_toArray, List.set_cons_zero, List.set_cons_succ]
    refine wpHK_take (i := 5) (oi := Oper.mk (some 25) _ _ _ _ _) (v := ?_) rfl (by kernel_rfl) (by kernel_rfl) (by kernel_rfl) (by kernel_rfl) (fun _ _ _ h => h) (Or.inl ⟨by rfl, ?_⟩) (by assumption) ?_
    rotate_left
    · (intro w' hSw; (try dsimp only at hSw); (obtain ⟨s1, s2⟩ := hSw); go_simp; try with_reducible rfl)
    try simp only [Act.put, List.setIfInBounds_toArray, List.set_cons_zero, List.set_cons_succ]
    refine wpHK_take (i := 6) (oi := Oper.mk (some 26) _ _ _ _ _) (v := ?_) rfl (by kernel_rfl) (by kernel_rfl) (by kernel_rfl) (by kernel_rfl) (fun _ _ _ h => h) (Or.inl ⟨by rfl, ?_⟩) (by assumption) ?_
    rotate_left
    · (intro w' hSw; (try dsimp only at hSw); (obtain ⟨s1, s2⟩ := hSw); go_simp; try with_reducible rfl)
    try simp only [Act.put, List.setIfInBounds_toArray, List.set_cons_zero, List.set_cons_succ]
    refine wpHK_take (i := 7) (oi := Oper.mk (some 27) _ _ _ _ _) (v := ?_) rfl (by kernel_rfl) (by kernel_rfl) (by kernel_rfl) (by kernel_rfl) (fun _ _ _ h => h) (Or.inl ⟨by rfl, ?_⟩) (by assumption) ?_
    rotate_left
    · (intro w' hSw; (try dsimp only at hSw); (obtain ⟨s1, s2⟩ := hSw); go_simp; try with_reducible rfl)
    try simp only [Act.put, List.setIfInBounds_toArray, List.set_cons_zero, List.set_cons_succ]
    refine wpHK_one (j := 1) (o := Oper.mk (some 21) _ _ _ _ _) rfl (by kernel_rfl) (fun K hK => ?_)
    go_simp
    try simp only []
    refine hK.out _ _ (Hcell.out _ Hba.out) (fun _ => ?_)
    clear hK K hHeld
    have hHeld := (Hcell.out _ Hba.out)
    try simp only [Act.put, List.setIfInBounds_toArray, List.set_cons_zero, List.set_cons_succ]
    refine wpHK_one (j := 8) (o := Oper.mk (some 28) _ _ _ _ _) rfl (by kernel_rfl) (fun K hK => ?_)
    go_simp
    refine HC.out.mono ?_
    rintro e w6 ⟨rfl, hi6, hg6⟩
    try simp only []
    rw [← Hm.out.2] at hi6
    have hb56 := up_row Hba.out hg6 hla (Nat.le_refl _)
    have HT := Lib.hid (told_any hi6 (by rw [Hm.out.2]; exact Nat.le_trans (HF.out.2 _ _ (len_num Hm.out.1.1) (len_num Hm.out.1.2)) (by omega)))
    refine hK.out _ _ (Hcell.out _ hb56) (fun _ => ?_)
    clear hK K hHeld
    have hHeld := (Hcell.out _ hb56)
    try simp only [Act.put, List.setIfInBounds_toArray, List.set_cons_zero, List.set_cons_succ]
    refine wpHK_one (j := 9) (o := Oper.mk (some 29) _ _ _ _ _) rfl (by kernel_rfl) (fun K hK => ?_)
    go_simp
    refine HT.out.mono ?_
    rintro e w7 ⟨t1, t2, hb7⟩
    have hb57 := hb56.trans (hb7.mono hb56.size)
    have he : e = .returned (.tuple #[.agg #[.bool sn, .string bn], .int .i64 cd]) := by
      by_cases hf : fits z
      · rw [t1 hf, (Hres.out.1 hf).1, (Hres.out.1 hf).2]
      · rw [t2 hf, (Hres.out.2 hf).1, (Hres.out.2 hf).2]
    subst he
    have hblk7 := H5.out.2.2.2.below hb57 (by omega)
    have d0 : w7.cell? ⟨w.heap.size + 1 + 1, 0, none⟩ = some (.bool false) := hblk7.cell 0
    have d1 : w7.cell? ⟨w.heap.size + 1 + 1, 1, none⟩ = some (.string ⟨#[]⟩) := hblk7.cell 1
    have f0 := hblk7.frozen 0
    have f1 := hblk7.frozen 1
    have Hb57 := Lib.hid hb57
    clear t1 t2 hb7 hblk7
    try simp only []
    refine hK.out _ _ (Hcell.out _ Hb57.out) (fun _ => ?_)
    clear hK K hHeld
    have hHeld := (Hcell.out _ Hb57.out)
    try simp only [Act.put, List.setIfInBounds_toArray, List.set_cons_zero, List.set_cons_succ]
    refine wpHK_take (i := 10) (oi := Oper.mk (some 30) _ _ _ _ _) (v := ?_) rfl (by kernel_rfl) (by kernel_rfl) (by kernel_rfl) (by kernel_rfl) (fun _ _ _ h => h) (Or.inl ⟨by rfl, ?_⟩) (by assumption) ?_
    rotate_left
    · (intro w' hSw; (try dsimp only at hSw); (obtain ⟨s1, s2⟩ := hSw); go_simp; try with_reducible rfl)
    try simp only [Act.put, List.setIfInBounds_toArray, List.set_cons_zero, List.set_cons_succ]
    refine wpHK_take (i := 11) (oi := Oper.mk (some 31) _ _ _ _ _) (v := ?_) rfl (by kernel_rfl) (by kernel_rfl) (by kernel_rfl) (by kernel_rfl) (fun _ _ _ h => h) (Or.inl ⟨by rfl, ?_⟩) (by assumption) ?_
    rotate_left
    · (intro w' hSw; (try dsimp only at hSw); (obtain ⟨s1, s2⟩ := hSw); go_simp; try with_reducible rfl)
    try simp only [Act.put, List.setIfInBounds_toArray, List.set_cons_zero, List.set_cons_succ]
    refine wpHK_tail (j := 12) (o := Oper.mk (none) _ _ _ _ _) rfl (by kernel_rfl) (by decide) (fun K hK => ?_)
    go_simp
    refine hK.out _ _ ?_
    clear hK K
    try simp only [Act.put, List.setIfInBounds_toArray, List.set_cons_zero, List.set_cons_succ]
    refine wpHK_pure (i := 13) (oi := Oper.mk (some 7) _ _ _ _ _) (v := ?_) rfl (by kernel_rfl) (by kernel_rfl) (by kernel_rfl) (fun _ _ _ h => h) (Or.inl ⟨by rfl, ?_⟩) ?_
    rotate_left
    · (intro w' _; go_simp; try with_reducible rfl)
    try simp only [Act.put, List.setIfInBounds_toArray, List.set_cons_zero, List.set_cons_succ]
    refine wpHK_done (by kernel_rfl) ?_ _
    refine NoPanic.normal ?_
    go_wp2_with fail
    refine bodyPost_ret (v := .tuple #[.agg #[.bool sn, .string bn], .int .i64 cd]) (by simp [results, Try.results80, go_sem, d0, d1]) rfl ?_
    refine ⟨fun _ hf => by rw [(Hres.out.1 hf).1, (Hres.out.1 hf).2], fun _ hf => by rw [(Hres.out.2 hf).1, (Hres.out.2 hf).2], fun h => absurd Hm.out.1 h, ?_⟩
    exact ((H5.out.1.trans (Hb57.out.mono (by omega))).setCell (by show w.heap.size ≤ w.heap.size + 1 + 1; omega) _).setCell (by show w.heap.size ≤ w.heap.size + 1 + 1; omega) _
  · have Hm := Lib.hid hm
    clear hm
    go_enter Try.func80, Try.ntmps80
    go_wp2_with fail
    refine HO.out.mono ?_
    rintro e w5 ⟨h1, h2⟩
    obtain ⟨A5, n5, c5, rfl, hb5⟩ := h2 (fun h => Hm.out (may2_all.1 h))
    have hblk5 := Hb.out.2.1.below hb5 (by rw [Hb.out.2.2]; omega)
    have hb05 := Hb.out.1.trans (hb5.mono (by rw [Hb.out.2.2]; omega))
    have d0 : w5.cell? ⟨w.heap.size + 1 + 1, 0, none⟩ = some (.bool false) := hblk5.cell 0
    have d1 : w5.cell? ⟨w.heap.size + 1 + 1, 1, none⟩ = some (.string ⟨#[]⟩) := hblk5.cell 1
    have f0 := hblk5.frozen 0
    have f1 := hblk5.frozen 1
    clear h1 h2 hb5 hblk5
    go_wp2_with fail
    refine bodyPost_ret (v := .tuple #[.agg #[.bool false, .string ⟨#[]⟩], .int .i64 2]) (by simp [results, Try.results80, go_sem, d0, d1]) rfl ?_
    refine ⟨fun h => absurd h Hm.out, fun h => absurd h Hm.out, fun _ => rfl, ?_⟩
    exact (hb05.setCell (by show w.heap.size ≤ w.heap.size + 1 + 1; omega) _).setCell (by show w.heap.size ≤ w.heap.size + 1 + 1; omega) _
set_option maxRecDepth 100000 in
set_option maxHeartbeats 4000000 in
theorem two82_any {w : World} {na nb : Bool} {sa sb : ByteArray} {op : Int → Int → Int} (hF : Does 82 op) (hop : ∀ x y : Int, (wds x.natAbs).length ≤ 5000 → (wds y.natAbs).length ≤ 5000 → (wds (op x y).natAbs).length ≤ 100000) :
    Calls Try.prog 80 #[.agg #[.bool na, .string sa], .agg #[.bool nb, .string sb], .func (.func 82) #[] #[]] w (Ans w (May2 (na, sa) (nb, sb)) (op (num (na, sa)) (num (nb, sb)))) := by
  have hb1 := new_below w (.cells #[.bool na, .string sa] 26)
  have hb2 := hb1.alloc (by simp) (.cells #[.bool nb, .string sb] 26)
  have hb3 := hb2.alloc (by simp; omega) (.cells #[.bool false, .string ⟨#[]⟩] 26)
  have hb4 := hb3.alloc (by simp; omega) (.cells #[.bool na, .string sa, .bool nb, .string sb] 26)
  obtain ⟨W3, hW3⟩ : ∃ W3, W3 = ((w.alloc (.cells #[.bool na, .string sa] 26)).alloc (.cells #[.bool nb, .string sb] 26)).alloc (.cells #[.bool false, .string ⟨#[]⟩] 26) := ⟨_, rfl⟩
  have hsz3 : W3.heap.size = w.heap.size + 1 + 1 + 1 := by rw [hW3]; simp
  have hO := ofs_any (c := 2) (n := 2) (blk_pair (w := W3) (na, sa) (nb, sb)) (by simp) rfl (by omega)
  have hbk := (Blk.new ((w.alloc (.cells #[.bool na, .string sa] 26)).alloc (.cells #[.bool nb, .string sb] 26)) 26 #[.bool false, .string ⟨#[]⟩])
  rw [← hW3] at hb4 hbk
  have hbk2 : Blk (W3.alloc (.cells #[.bool na, .string sa, .bool nb, .string sb] 26)) (w.heap.size + 1 + 1) 26 #[.bool false, .string ⟨#[]⟩] := by
    have := hbk.alloc (.cells #[.bool na, .string sa, .bool nb, .string sb] 26)
    simpa using this
  rw [hsz3] at hO
  have hsz4 : (W3.alloc (.cells #[.bool na, .string sa, .bool nb, .string sb] 26)).heap.size = w.heap.size + 1 + 1 + 1 + 1 := by rw [World.size_alloc, hsz3]
  rw [hW3] at hO hb4 hbk2 hsz4
  have HO := Lib.hid hO
  have Hb := Lib.hid (And.intro hb4 (And.intro hbk2 hsz4))
  have HF := Lib.hid (And.intro hF hop)
  clear hO hb1 hb2 hb3 hb4 hW3 hsz3 hbk hbk2 hsz4 hF hop
  by_cases hm : May2 (na, sa) (nb, sb)
  · obtain ⟨z, hz⟩ : ∃ z, z = op (num (na, sa)) (num (nb, sb)) := ⟨_, rfl⟩
    rw [← hz]
    have Hm := Lib.hid (And.intro hm hz)
    obtain ⟨sn, bn, cd, hres⟩ : ∃ (sn : Bool) (bn : ByteArray) (cd : Int), (fits z → enc z = .agg #[.bool sn, .string bn] ∧ cd = 0) ∧ (¬ fits z → none_ = .agg #[.bool sn, .string bn] ∧ cd = 4) := by
      by_cases hf : fits z
      · exact ⟨_, _, 0, fun _ => ⟨rfl, rfl⟩, fun h => absurd hf h⟩
      · exact ⟨_, _, 4, fun h => absurd h hf, fun _ => ⟨rfl, rfl⟩⟩
    have hAns : Ans w (May2 (na, sa) (nb, sb)) z (.returned (.tuple #[.agg #[.bool sn, .string bn], .int .i64 cd])) = Ans w (May2 (na, sa) (nb, sb)) z (.returned (.tuple #[.agg #[.bool sn, .string bn], .int .i64 cd])) := rfl
    have Hres := Lib.hid hres
    clear hz hm hAns hres
    go_enter Try.func80, Try.ntmps80
    go_wp2_with fail
    refine HO.out.mono ?_
    rintro e w5 ⟨h1, h2⟩
    obtain ⟨A5, n5, c5, gs, rfl, hn5, hr5, hi5, hb5, hge⟩ := h1 (may2_all.2 Hm.out.1)
    obtain ⟨g1, g2, rfl, hx, hy, hne⟩ := ints_two hi5
    obtain ⟨ad, rfl, hadb, p0⟩ := hr5.at_ (k := 0) (by simp)
    obtain ⟨ad', e', _, p1⟩ := hr5.at_ (k := 1) (by simp)
    injection e' with e'
    subst e'
    rw [Addr.add_zero'] at p0
    rw [add_pos (by decide)] at p1
    have p0' : w5.cell? ad = some (.pointer (some ⟨g1, 0, none⟩)) := p0
    have p1' : w5.cell? ⟨ad.block, ad.off + 1, none⟩ = some (.pointer (some ⟨g2, 0, none⟩)) := p1
    obtain rfl : n5 = 2 := hn5.out.1
    have hblk5 := Hb.out.2.1.below hb5 (by rw [Hb.out.2.2]; omega)
    have hb05 := Hb.out.1.trans (hb5.mono (by rw [Hb.out.2.2]; omega))
    have hsz5 : w.heap.size + 1 + 1 + 1 + 1 ≤ w5.heap.size := by have := hb5.size; rw [Hb.out.2.2] at this; exact this
    have H5 := Lib.hid (And.intro hb05 (And.intro hx (And.intro hy hblk5)))
    clear h1 h2 hr5 hi5 hge hb5 p0 p1 hne hb05 hx hy hblk5
    go_wp2_with fail
    have hba : Below w5.heap.size w5 (w5.drew.alloc (.cells #[.bool false, .slice none 0 0] 82)) := (Below.refl _ _).drew.alloc (Nat.le_refl _) _
    have hxa := H5.out.2.1.below hba
    have hya := H5.out.2.2.1.below hba
    have HC := Lib.hid (HF.out.1 _ w5.heap.size g1 g2 _ _ (IntB.zero w5.drew).slot hxa hya (len_num Hm.out.1.1) (len_num Hm.out.1.2))
    have hcell : ∀ w' : World, Below w5.heap.size w5 w' → w'.cell? ad = some (.pointer (some ⟨g1, 0, none⟩)) ∧ w'.cell? ⟨ad.block, ad.off + 1, none⟩ = some (.pointer (some ⟨g2, 0, none⟩)) := fun w' hb => ⟨(hb.cell hadb).trans p0', (hb.cell (p := ⟨ad.block, ad.off + 1, none⟩) hadb).trans p1'⟩
    have hla := hba.size
    have Hba := Lib.hid hba
    have Hcell := Lib.hid hcell
    clear hcell hba
    refine wp_region_noPanic ?_
    refine wp_region_HK (fun w' => w'.cell? ad = some (.pointer (some ⟨g1, 0, none⟩)) ∧ w'.cell? ⟨ad.block, ad.off + 1, none⟩ = some (.pointer (some ⟨g2, 0, none⟩))) 12 (by kernel_rfl) ⟨p0', p1'⟩ (fun hHeld => ?_)
    refine wpHK_take (i := 0) (oi := Oper.mk (some 20) _ _ _ _ _) (v := ?_) rfl (by kernel_rfl) (by kernel_rfl) (by kernel_rfl) (by kernel_rfl) (fun _ _ _ h => h) (Or.inl ⟨by rfl, ?_⟩) (by assumption) ?_
    rotate_left
    · (intro w' hSw; (try dsimp only at hSw); (obtain ⟨s1, s2⟩ := hSw); go_simp; try with_reducible rfl)
    try simp only [Act.put, List.setIfInBounds_toArray, List.set_cons_zero, List.set_cons_succ]
    refine wpHK_take (i := 2) (oi := Oper.mk (some 22) _ _ _ _ _) (v := ?_) rfl (by kernel_rfl) (by kernel_rfl) (by kernel_rfl) (by kernel_rfl) (fun _ _ _ h => h) (Or.inl ⟨by rfl, ?_⟩) (by assumption) ?_
    rotate_left
    · (intro w' hSw; (try dsimp only at hSw); (obtain ⟨s1, s2⟩ := hSw); go_simp; try with_reducible rfl)
    try simp only [Act.put, List.setIfInBounds_toArray, List.set_cons_zero, List.set_cons_succ]
    refine wpHK_take (i := 3) (oi := Oper.mk (some 23) _ _ _ _ _) (v := ?_) rfl (by kernel_rfl) (by kernel_rfl) (by kernel_rfl) (by kernel_rfl) (fun _ _ _ h => h) (Or.inl ⟨by rfl, ?_⟩) (by assumption) ?_
    rotate_left
    · (intro w' hSw; (try dsimp only at hSw); (obtain ⟨s1, s2⟩ := hSw); go_simp; try with_reducible rfl)
    try simp only [Act.put, List.setIfInBounds_toArray, List.set_cons_zero, List.set_cons_succ]
    refine wpHK_take (i := 4) (oi := Oper.mk (some 24) _ _ _ _ _) (v := ?_) rfl (by kernel_rfl) (by kernel_rfl) (by kernel_rfl) (by kernel_rfl) (fun _ _ _ h => h) (Or.inl ⟨by rfl, ?_⟩) (by assumption) ?_
    rotate_left
    · (intro w' hSw; (try dsimp only at hSw); (obtain ⟨s1, s2⟩ := hSw); go_simp; try with_reducible rfl)
    try simp only [Act.put, List.setIfInBounds_toArray, List.set_cons_zero, List.set_cons_succ]
    refine wpHK_take (i := 5) (oi := Oper.mk (some 25) _ _ _ _ _) (v := ?_) rfl (by kernel_rfl) (by kernel_rfl) (by kernel_rfl) (by kernel_rfl) (fun _ _ _ h => h) (Or.inl ⟨by rfl, ?_⟩) (by assumption) ?_
    rotate_left
    · (intro w' hSw; (try dsimp only at hSw); (obtain ⟨s1, s2⟩ := hSw); go_simp; try with_reducible rfl)
    try simp only [Act.put, List.setIfInBounds_toArray, List.set_cons_zero, List.set_cons_succ]
    refine wpHK_take (i := 6) (oi := Oper.mk (some 26) _ _ _ _ _) (v := ?_) rfl (by kernel_rfl) (by kernel_rfl) (by kernel_rfl) (by kernel_rfl) (fun _ _ _ h => h) (Or.inl ⟨by rfl, ?_⟩) (by assumption) ?_
    rotate_left
    · (intro w' hSw; (try dsimp only at hSw); (obtain ⟨s1, s2⟩ := hSw); go_simp; try with_reducible rfl)
    try simp only [Act.put, List.setIfInBounds_toArray, List.set_cons_zero, List.set_cons_succ]
    refine wpHK_take (i := 7) (oi := Oper.mk (some 27) _ _ _ _ _) (v := ?_) rfl (by kernel_rfl) (by kernel_rfl) (by kernel_rfl) (by kernel_rfl) (fun _ _ _ h => h) (Or.inl ⟨by rfl, ?_⟩) (by assumption) ?_
    rotate_left
    · (intro w' hSw; (try dsimp only at hSw); (obtain ⟨s1, s2⟩ := hSw); go_simp; try with_reducible rfl)
    try simp only [Act.put, List.setIfInBounds_toArray, List.set_cons_zero, List.set_cons_succ]
    refine wpHK_one (j := 1) (o := Oper.mk (some 21) _ _ _ _ _) rfl (by kernel_rfl) (fun K hK => ?_)
    go_simp
    try simp only []
    refine hK.out _ _ (Hcell.out _ Hba.out) (fun _ => ?_)
    clear hK K hHeld
    have hHeld := (Hcell.out _ Hba.out)
    try simp only [Act.put, List.setIfInBounds_toArray, List.set_cons_zero, List.set_cons_succ]
    refine wpHK_one (j := 8) (o := Oper.mk (some 28) _ _ _ _ _) rfl (by kernel_rfl) (fun K hK => ?_)
    go_simp
    refine HC.out.mono ?_
    rintro e w6 ⟨rfl, hi6, hg6⟩
    try simp only []
    rw [← Hm.out.2] at hi6
    have hb56 := up_row Hba.out hg6 hla (Nat.le_refl _)
    have HT := Lib.hid (told_any hi6 (by rw [Hm.out.2]; exact Nat.le_trans (HF.out.2 _ _ (len_num Hm.out.1.1) (len_num Hm.out.1.2)) (by omega)))
    refine hK.out _ _ (Hcell.out _ hb56) (fun _ => ?_)
    clear hK K hHeld
    have hHeld := (Hcell.out _ hb56)
    try simp only [Act.put, List.setIfInBounds_toArray, List.set_cons_zero, List.set_cons_succ]
    refine wpHK_one (j := 9) (o := Oper.mk (some 29) _ _ _ _ _) rfl (by kernel_rfl) (fun K hK => ?_)
    go_simp
    refine HT.out.mono ?_
    rintro e w7 ⟨t1, t2, hb7⟩
    have hb57 := hb56.trans (hb7.mono hb56.size)
    have he : e = .returned (.tuple #[.agg #[.bool sn, .string bn], .int .i64 cd]) := by
      by_cases hf : fits z
      · rw [t1 hf, (Hres.out.1 hf).1, (Hres.out.1 hf).2]
      · rw [t2 hf, (Hres.out.2 hf).1, (Hres.out.2 hf).2]
    subst he
    have hblk7 := H5.out.2.2.2.below hb57 (by omega)
    have d0 : w7.cell? ⟨w.heap.size + 1 + 1, 0, none⟩ = some (.bool false) := hblk7.cell 0
    have d1 : w7.cell? ⟨w.heap.size + 1 + 1, 1, none⟩ = some (.string ⟨#[]⟩) := hblk7.cell 1
    have f0 := hblk7.frozen 0
    have f1 := hblk7.frozen 1
    have Hb57 := Lib.hid hb57
    clear t1 t2 hb7 hblk7
    try simp only []
    refine hK.out _ _ (Hcell.out _ Hb57.out) (fun _ => ?_)
    clear hK K hHeld
    have hHeld := (Hcell.out _ Hb57.out)
    try simp only [Act.put, List.setIfInBounds_toArray, List.set_cons_zero, List.set_cons_succ]
    refine wpHK_take (i := 10) (oi := Oper.mk (some 30) _ _ _ _ _) (v := ?_) rfl (by kernel_rfl) (by kernel_rfl) (by kernel_rfl) (by kernel_rfl) (fun _ _ _ h => h) (Or.inl ⟨by rfl, ?_⟩) (by assumption) ?_
    rotate_left
    · (intro w' hSw; (try dsimp only at hSw); (obtain ⟨s1, s2⟩ := hSw); go_simp; try with_reducible rfl)
    try simp only [Act.put, List.setIfInBounds_toArray, List.set_cons_zero, List.set_cons_succ]
    refine wpHK_take (i := 11) (oi := Oper.mk (some 31) _ _ _ _ _) (v := ?_) rfl (by kernel_rfl) (by kernel_rfl) (by kernel_rfl) (by kernel_rfl) (fun _ _ _ h => h) (Or.inl ⟨by rfl, ?_⟩) (by assumption) ?_
    rotate_left
    · (intro w' hSw; (try dsimp only at hSw); (obtain ⟨s1, s2⟩ := hSw); go_simp; try with_reducible rfl)
    try simp only [Act.put, List.setIfInBounds_toArray, List.set_cons_zero, List.set_cons_succ]
    refine wpHK_tail (j := 12) (o := Oper.mk (none) _ _ _ _ _) rfl (by kernel_rfl) (by decide) (fun K hK => ?_)
    go_simp
    refine hK.out _ _ ?_
    clear hK K
    try simp only [Act.put, List.setIfInBounds_toArray, List.set_cons_zero, List.set_cons_succ]
    refine wpHK_pure (i := 13) (oi := Oper.mk (some 7) _ _ _ _ _) (v := ?_) rfl (by kernel_rfl) (by kernel_rfl) (by kernel_rfl) (fun _ _ _ h => h) (Or.inl ⟨by rfl, ?_⟩) ?_
    rotate_left
    · (intro w' _; go_simp; try with_reducible rfl)
    try simp only [Act.put, List.setIfInBounds_toArray, List.set_cons_zero, List.set_cons_succ]
    refine wpHK_done (by kernel_rfl) ?_ _
    refine NoPanic.normal ?_
    go_wp2_with fail
    refine bodyPost_ret (v := .tuple #[.agg #[.bool sn, .string bn], .int .i64 cd]) (by simp [results, Try.results80, go_sem, d0, d1]) rfl ?_
    refine ⟨fun _ hf => by rw [(Hres.out.1 hf).1, (Hres.out.1 hf).2], fun _ hf => by rw [(Hres.out.2 hf).1, (Hres.out.2 hf).2], fun h => absurd Hm.out.1 h, ?_⟩
    exact ((H5.out.1.trans (Hb57.out.mono (by omega))).setCell (by show w.heap.size ≤ w.heap.size + 1 + 1; omega) _).setCell (by show w.heap.size ≤ w.heap.size + 1 + 1; omega) _
  · have Hm := Lib.hid hm
    clear hm
    go_enter Try.func80, Try.ntmps80
    go_wp2_with fail
    refine HO.out.mono ?_
    rintro e w5 ⟨h1, h2⟩
    obtain ⟨A5, n5, c5, rfl, hb5⟩ := h2 (fun h => Hm.out (may2_all.1 h))
    have hblk5 := Hb.out.2.1.below hb5 (by rw [Hb.out.2.2]; omega)
    have hb05 := Hb.out.1.trans (hb5.mono (by rw [Hb.out.2.2]; omega))
    have d0 : w5.cell? ⟨w.heap.size + 1 + 1, 0, none⟩ = some (.bool false) := hblk5.cell 0
    have d1 : w5.cell? ⟨w.heap.size + 1 + 1, 1, none⟩ = some (.string ⟨#[]⟩) := hblk5.cell 1
    have f0 := hblk5.frozen 0
    have f1 := hblk5.frozen 1
    clear h1 h2 hb5 hblk5
    go_wp2_with fail
    refine bodyPost_ret (v := .tuple #[.agg #[.bool false, .string ⟨#[]⟩], .int .i64 2]) (by simp [results, Try.results80, go_sem, d0, d1]) rfl ?_
    refine ⟨fun h => absurd h Hm.out, fun h => absurd h Hm.out, fun _ => rfl, ?_⟩
    exact (hb05.setCell (by show w.heap.size ≤ w.heap.size + 1 + 1; omega) _).setCell (by show w.heap.size ≤ w.heap.size + 1 + 1; omega) _
theorem does63 : Does 63 (· + ·) := fun w g gx gy x y h1 h2 h3 h4 h5 => add2_any h1 h2 h3 (by omega) (by omega)
theorem does81 : Does 81 (· - ·) := fun w g gx gy x y h1 h2 h3 h4 h5 => sub2_any h1 h2 h3 (by omega) (by omega)
theorem does82 : Does 82 (· * ·) := fun w g gx gy x y h1 h2 h3 h4 h5 => mul_any h1 h2 h3 (by omega) (by omega)
theorem len_sum {a b : Nat} (ha : (wds a).length ≤ 5000) (hb : (wds b).length ≤ 5000) : (wds (a + b)).length ≤ 100000 := by
  rcases Nat.le_total a b with h | h
  · exact Nat.le_trans (len_mono (show a + b ≤ 2 * b by omega)) (Nat.le_trans (len_mul (p := 1) (q := 5000) (len_small (by decide)) hb) (by omega))
  · exact Nat.le_trans (len_mono (show a + b ≤ 2 * a by omega)) (Nat.le_trans (len_mul (p := 1) (q := 5000) (len_small (by decide)) ha) (by omega))
theorem len_add (x y : Int) (hx : (wds x.natAbs).length ≤ 5000) (hy : (wds y.natAbs).length ≤ 5000) : (wds (x + y).natAbs).length ≤ 100000 := Nat.le_trans (len_mono (Int.natAbs_add_le x y)) (len_sum hx hy)
theorem len_sub (x y : Int) (hx : (wds x.natAbs).length ≤ 5000) (hy : (wds y.natAbs).length ≤ 5000) : (wds (x - y).natAbs).length ≤ 100000 := Nat.le_trans (len_mono (Int.natAbs_sub_le x y)) (len_sum hx hy)
theorem len_mulI (x y : Int) (hx : (wds x.natAbs).length ≤ 5000) (hy : (wds y.natAbs).length ≤ 5000) : (wds (x * y).natAbs).length ≤ 100000 := by rw [Int.natAbs_mul]; exact Nat.le_trans (len_mul hx hy) (by omega)

set_option maxRecDepth 100000 in
set_option maxHeartbeats 2000000 in
theorem wadd_any {w : World} {na nb : Bool} {sa sb : ByteArray} :
    Calls Try.prog 27 #[.agg #[.bool na, .string sa], .agg #[.bool nb, .string sb]] w (Ans w (May2 (na, sa) (nb, sb)) (num (na, sa) + num (nb, sb))) := by
  have hb1 := new_below w (.cells #[.bool na, .string sa] 26)
  have hb2 := hb1.alloc (by simp) (.cells #[.bool nb, .string sb] 26)
  have hb3 := hb2.alloc (by simp; omega) (.cells #[.bool false, .string ⟨#[]⟩] 26)
  have HT := Lib.hid (two63_any (w := ((w.alloc (.cells #[.bool na, .string sa] 26)).alloc (.cells #[.bool nb, .string sb] 26)).alloc (.cells #[.bool false, .string ⟨#[]⟩] 26)) (na := na) (nb := nb) (sa := sa) (sb := sb) does63 len_add)
  have hbk := (Blk.new ((w.alloc (.cells #[.bool na, .string sa] 26)).alloc (.cells #[.bool nb, .string sb] 26)) 26 #[.bool false, .string ⟨#[]⟩])
  obtain ⟨z, hz⟩ : ∃ z, z = num (na, sa) + num (nb, sb) := ⟨_, rfl⟩
  have HT2 : Hid (Calls Try.prog 80 #[.agg #[.bool na, .string sa], .agg #[.bool nb, .string sb], .func (.func 63) #[] #[]] (((w.alloc (.cells #[.bool na, .string sa] 26)).alloc (.cells #[.bool nb, .string sb] 26)).alloc (.cells #[.bool false, .string ⟨#[]⟩] 26)) (Ans (((w.alloc (.cells #[.bool na, .string sa] 26)).alloc (.cells #[.bool nb, .string sb] 26)).alloc (.cells #[.bool false, .string ⟨#[]⟩] 26)) (May2 (na, sa) (nb, sb)) z)) := by rw [hz]; exact HT.out
  rw [← hz]
  have Hb := Lib.hid (And.intro hb3 hbk)
  clear HT hz hb1 hb2 hb3 hbk
  go_enter Try.func27, Try.ntmps27
  go_wp2_with fail
  refine HT2.out.mono ?_
  rintro e w5 ⟨t1, t2, t3, hb5⟩
  obtain ⟨sn, bn, cd, he, hans⟩ : ∃ (sn : Bool) (bn : ByteArray) (cd : Int), e = .returned (.tuple #[.agg #[.bool sn, .string bn], .int .i64 cd]) ∧ ∀ w', Below w.heap.size w w' → Ans w (May2 (na, sa) (nb, sb)) z (.returned (.tuple #[.agg #[.bool sn, .string bn], .int .i64 cd])) w' := by
    by_cases hm : May2 (na, sa) (nb, sb)
    · by_cases hf : fits z
      · exact ⟨_, _, 0, t1 hm hf, fun w' hb => ⟨fun _ _ => rfl, fun _ h => absurd hf h, fun h => absurd hm h, hb⟩⟩
      · exact ⟨_, _, 4, t2 hm hf, fun w' hb => ⟨fun _ h => absurd h hf, fun _ _ => rfl, fun h => absurd hm h, hb⟩⟩
    · exact ⟨_, _, 2, t3 hm, fun w' hb => ⟨fun h => absurd h hm, fun h => absurd h hm, fun _ => rfl, hb⟩⟩
  subst he
  have hblk5 := Hb.out.2.below hb5 (by simp)
  rw [show ((w.alloc (.cells #[.bool na, .string sa] 26)).alloc (.cells #[.bool nb, .string sb] 26)).heap.size = w.heap.size + 1 + 1 by simp] at hblk5
  have hb05 := Hb.out.1.trans (hb5.mono (by simp; omega))
  have d0 : w5.cell? ⟨w.heap.size + 1 + 1, 0, none⟩ = some (.bool false) := hblk5.cell 0
  have d1 : w5.cell? ⟨w.heap.size + 1 + 1, 1, none⟩ = some (.string ⟨#[]⟩) := hblk5.cell 1
  have f0 := hblk5.frozen 0
  have f1 := hblk5.frozen 1
  have Hans := Lib.hid hans
  clear t1 t2 t3 hb5 hblk5 hans
  go_wp2_with fail
  refine bodyPost_ret (v := .tuple #[.agg #[.bool sn, .string bn], .int .i64 cd]) (by simp [results, Try.results27, go_sem, d0, d1]) rfl ?_
  exact Hans.out _ ((hb05.setCell (by show w.heap.size ≤ w.heap.size + 1 + 1; omega) _).setCell (by show w.heap.size ≤ w.heap.size + 1 + 1; omega) _)

set_option maxRecDepth 100000 in
set_option maxHeartbeats 2000000 in
theorem wsub_any {w : World} {na nb : Bool} {sa sb : ByteArray} :
    Calls Try.prog 28 #[.agg #[.bool na, .string sa], .agg #[.bool nb, .string sb]] w (Ans w (May2 (na, sa) (nb, sb)) (num (na, sa) - num (nb, sb))) := by
  have hb1 := new_below w (.cells #[.bool na, .string sa] 26)
  have hb2 := hb1.alloc (by simp) (.cells #[.bool nb, .string sb] 26)
  have hb3 := hb2.alloc (by simp; omega) (.cells #[.bool false, .string ⟨#[]⟩] 26)
  have HT := Lib.hid (two81_any (w := ((w.alloc (.cells #[.bool na, .string sa] 26)).alloc (.cells #[.bool nb, .string sb] 26)).alloc (.cells #[.bool false, .string ⟨#[]⟩] 26)) (na := na) (nb := nb) (sa := sa) (sb := sb) does81 len_sub)
  have hbk := (Blk.new ((w.alloc (.cells #[.bool na, .string sa] 26)).alloc (.cells #[.bool nb, .string sb] 26)) 26 #[.bool false, .string ⟨#[]⟩])
  obtain ⟨z, hz⟩ : ∃ z, z = num (na, sa) - num (nb, sb) := ⟨_, rfl⟩
  have HT2 : Hid (Calls Try.prog 80 #[.agg #[.bool na, .string sa], .agg #[.bool nb, .string sb], .func (.func 81) #[] #[]] (((w.alloc (.cells #[.bool na, .string sa] 26)).alloc (.cells #[.bool nb, .string sb] 26)).alloc (.cells #[.bool false, .string ⟨#[]⟩] 26)) (Ans (((w.alloc (.cells #[.bool na, .string sa] 26)).alloc (.cells #[.bool nb, .string sb] 26)).alloc (.cells #[.bool false, .string ⟨#[]⟩] 26)) (May2 (na, sa) (nb, sb)) z)) := by rw [hz]; exact HT.out
  rw [← hz]
  have Hb := Lib.hid (And.intro hb3 hbk)
  clear HT hz hb1 hb2 hb3 hbk
  go_enter Try.func28, Try.ntmps28
  go_wp2_with fail
  refine HT2.out.mono ?_
  rintro e w5 ⟨t1, t2, t3, hb5⟩
  obtain ⟨sn, bn, cd, he, hans⟩ : ∃ (sn : Bool) (bn : ByteArray) (cd : Int), e = .returned (.tuple #[.agg #[.bool sn, .string bn], .int .i64 cd]) ∧ ∀ w', Below w.heap.size w w' → Ans w (May2 (na, sa) (nb, sb)) z (.returned (.tuple #[.agg #[.bool sn, .string bn], .int .i64 cd])) w' := by
    by_cases hm : May2 (na, sa) (nb, sb)
    · by_cases hf : fits z
      · exact ⟨_, _, 0, t1 hm hf, fun w' hb => ⟨fun _ _ => rfl, fun _ h => absurd hf h, fun h => absurd hm h, hb⟩⟩
      · exact ⟨_, _, 4, t2 hm hf, fun w' hb => ⟨fun _ h => absurd h hf, fun _ _ => rfl, fun h => absurd hm h, hb⟩⟩
    · exact ⟨_, _, 2, t3 hm, fun w' hb => ⟨fun h => absurd h hm, fun h => absurd h hm, fun _ => rfl, hb⟩⟩
  subst he
  have hblk5 := Hb.out.2.below hb5 (by simp)
  rw [show ((w.alloc (.cells #[.bool na, .string sa] 26)).alloc (.cells #[.bool nb, .string sb] 26)).heap.size = w.heap.size + 1 + 1 by simp] at hblk5
  have hb05 := Hb.out.1.trans (hb5.mono (by simp; omega))
  have d0 : w5.cell? ⟨w.heap.size + 1 + 1, 0, none⟩ = some (.bool false) := hblk5.cell 0
  have d1 : w5.cell? ⟨w.heap.size + 1 + 1, 1, none⟩ = some (.string ⟨#[]⟩) := hblk5.cell 1
  have f0 := hblk5.frozen 0
  have f1 := hblk5.frozen 1
  have Hans := Lib.hid hans
  clear t1 t2 t3 hb5 hblk5 hans
  go_wp2_with fail
  refine bodyPost_ret (v := .tuple #[.agg #[.bool sn, .string bn], .int .i64 cd]) (by simp [results, Try.results28, go_sem, d0, d1]) rfl ?_
  exact Hans.out _ ((hb05.setCell (by show w.heap.size ≤ w.heap.size + 1 + 1; omega) _).setCell (by show w.heap.size ≤ w.heap.size + 1 + 1; omega) _)

set_option maxRecDepth 100000 in
set_option maxHeartbeats 2000000 in
theorem wmul_any {w : World} {na nb : Bool} {sa sb : ByteArray} :
    Calls Try.prog 29 #[.agg #[.bool na, .string sa], .agg #[.bool nb, .string sb]] w (Ans w (May2 (na, sa) (nb, sb)) (num (na, sa) * num (nb, sb))) := by
  have hb1 := new_below w (.cells #[.bool na, .string sa] 26)
  have hb2 := hb1.alloc (by simp) (.cells #[.bool nb, .string sb] 26)
  have hb3 := hb2.alloc (by simp; omega) (.cells #[.bool false, .string ⟨#[]⟩] 26)
  have HT := Lib.hid (two82_any (w := ((w.alloc (.cells #[.bool na, .string sa] 26)).alloc (.cells #[.bool nb, .string sb] 26)).alloc (.cells #[.bool false, .string ⟨#[]⟩] 26)) (na := na) (nb := nb) (sa := sa) (sb := sb) does82 len_mulI)
  have hbk := (Blk.new ((w.alloc (.cells #[.bool na, .string sa] 26)).alloc (.cells #[.bool nb, .string sb] 26)) 26 #[.bool false, .string ⟨#[]⟩])
  obtain ⟨z, hz⟩ : ∃ z, z = num (na, sa) * num (nb, sb) := ⟨_, rfl⟩
  have HT2 : Hid (Calls Try.prog 80 #[.agg #[.bool na, .string sa], .agg #[.bool nb, .string sb], .func (.func 82) #[] #[]] (((w.alloc (.cells #[.bool na, .string sa] 26)).alloc (.cells #[.bool nb, .string sb] 26)).alloc (.cells #[.bool false, .string ⟨#[]⟩] 26)) (Ans (((w.alloc (.cells #[.bool na, .string sa] 26)).alloc (.cells #[.bool nb, .string sb] 26)).alloc (.cells #[.bool false, .string ⟨#[]⟩] 26)) (May2 (na, sa) (nb, sb)) z)) := by rw [hz]; exact HT.out
  rw [← hz]
  have Hb := Lib.hid (And.intro hb3 hbk)
  clear HT hz hb1 hb2 hb3 hbk
  go_enter Try.func29, Try.ntmps29
  go_wp2_with fail
  refine HT2.out.mono ?_
  rintro e w5 ⟨t1, t2, t3, hb5⟩
  obtain ⟨sn, bn, cd, he, hans⟩ : ∃ (sn : Bool) (bn : ByteArray) (cd : Int), e = .returned (.tuple #[.agg #[.bool sn, .string bn], .int .i64 cd]) ∧ ∀ w', Below w.heap.size w w' → Ans w (May2 (na, sa) (nb, sb)) z (.returned (.tuple #[.agg #[.bool sn, .string bn], .int .i64 cd])) w' := by
    by_cases hm : May2 (na, sa) (nb, sb)
    · by_cases hf : fits z
      · exact ⟨_, _, 0, t1 hm hf, fun w' hb => ⟨fun _ _ => rfl, fun _ h => absurd hf h, fun h => absurd hm h, hb⟩⟩
      · exact ⟨_, _, 4, t2 hm hf, fun w' hb => ⟨fun _ h => absurd h hf, fun _ _ => rfl, fun h => absurd hm h, hb⟩⟩
    · exact ⟨_, _, 2, t3 hm, fun w' hb => ⟨fun h => absurd h hm, fun h => absurd h hm, fun _ => rfl, hb⟩⟩
  subst he
  have hblk5 := Hb.out.2.below hb5 (by simp)
  rw [show ((w.alloc (.cells #[.bool na, .string sa] 26)).alloc (.cells #[.bool nb, .string sb] 26)).heap.size = w.heap.size + 1 + 1 by simp] at hblk5
  have hb05 := Hb.out.1.trans (hb5.mono (by simp; omega))
  have d0 : w5.cell? ⟨w.heap.size + 1 + 1, 0, none⟩ = some (.bool false) := hblk5.cell 0
  have d1 : w5.cell? ⟨w.heap.size + 1 + 1, 1, none⟩ = some (.string ⟨#[]⟩) := hblk5.cell 1
  have f0 := hblk5.frozen 0
  have f1 := hblk5.frozen 1
  have Hans := Lib.hid hans
  clear t1 t2 t3 hb5 hblk5 hans
  go_wp2_with fail
  refine bodyPost_ret (v := .tuple #[.agg #[.bool sn, .string bn], .int .i64 cd]) (by simp [results, Try.results29, go_sem, d0, d1]) rfl ?_
  exact Hans.out _ ((hb05.setCell (by show w.heap.size ≤ w.heap.size + 1 + 1; omega) _).setCell (by show w.heap.size ≤ w.heap.size + 1 + 1; omega) _)
end Go.Proofs.Ytpnginnjbdedbaa

/- whole: what a number is (printed by gen_ask.py). -/
namespace Go.Proofs.Ytpnginnjbdedbaa
open Go.RowKit
open Wh
set_option linter.unusedSimpArgs false

theorem blk_one {w : World} (a : Bool × ByteArray) : ReadsWh (w.alloc (.cells #[.bool a.1, .string a.2] 26)) (w.heap.size + 1) (some ⟨w.heap.size, 0, none⟩) [a] := by
  refine ⟨rfl, fun _ => ⟨_, rfl, Nat.lt_succ_self _, fun j u hu => ?_⟩⟩
  rw [Addr.add_lit, Nat.zero_add, (Blk.new w 26 #[.bool a.1, .string a.2]).cell j]
  rw [← hu]
  match j with
  | 0 => rfl
  | 1 => rfl
  | _ + 2 => rfl
/-- one number, as the library has it -/
def One (w : World) (na : Bool) (sa : ByteArray) (e : Ending) (w' : World) : Prop :=
  (MayL na sa.data.toList → ∃ ad c g, e = .returned (.tuple #[.slice (some ad) 1 c, .bool true]) ∧ ad.block < w'.heap.size ∧ w'.cell? ad = some (.pointer (some ⟨g, 0, none⟩)) ∧ IntB w' g (num (na, sa)) ∧ w.heap.size ≤ g) ∧
  (¬ MayL na sa.data.toList → ∃ A n c, e = .returned (.tuple #[.slice A n c, .bool false])) ∧ Below w.heap.size w w'
theorem of_one {w : World} {na : Bool} {sa : ByteArray} :
    Calls Try.prog 62 #[.slice (some ⟨w.heap.size, 0, none⟩) 1 1] (w.alloc (.cells #[.bool na, .string sa] 26)) (One w na sa) := by
  refine (ofs_any (c := 1) (n := 1) (blk_one (w := w) (na, sa)) (by simp) rfl (by omega)).mono ?_
  rintro e w5 ⟨h1, h2⟩
  have hb0 := new_below w (.cells #[.bool na, .string sa] 26)
  have hall : AllMay [(na, sa)] ↔ MayL na sa.data.toList := by unfold AllMay; simp
  by_cases hm : MayL na sa.data.toList
  · obtain ⟨A5, n5, c5, gs, rfl, hn5, hr5, hi5, hb5, hge⟩ := h1 (hall.2 hm)
    match gs, hi5, hn5, hr5, hge with
    | [g], ⟨hi, _⟩, hn5, hr5, hge =>
      obtain ⟨ad, rfl, hadb, p0⟩ := hr5.at_ (k := 0) (by simp)
      rw [Addr.add_zero'] at p0
      obtain rfl : n5 = 1 := hn5.out.1
      have h5 := hge g (List.mem_singleton.2 rfl)
      rw [World.size_alloc] at h5
      exact ⟨fun _ => ⟨ad, c5, g, rfl, hadb, p0, hi, by omega⟩, fun h => absurd hm h, hb0.trans (hb5.mono (by simp))⟩
    | [], h, _, _, _ => exact h.elim
    | _ :: _ :: _, ⟨_, _, h⟩, _, _, _ => exact h.elim
  · obtain ⟨A5, n5, c5, rfl, hb5⟩ := h2 (fun h => hm (hall.1 h))
    exact ⟨fun h => absurd h hm, fun _ => ⟨_, _, _, rfl⟩, hb0.trans (hb5.mono (by simp))⟩
/-- two numbers, as the library has them -/
def Pair (w : World) (a b : Bool × ByteArray) (e : Ending) (w' : World) : Prop :=
  (May2 a b → ∃ ad c g1 g2, e = .returned (.tuple #[.slice (some ad) 2 c, .bool true]) ∧ ad.block < w'.heap.size ∧ w'.cell? ad = some (.pointer (some ⟨g1, 0, none⟩)) ∧ w'.cell? ⟨ad.block, ad.off + 1, none⟩ = some (.pointer (some ⟨g2, 0, none⟩)) ∧ IntB w' g1 (num a) ∧ IntB w' g2 (num b) ∧ w.heap.size ≤ g1 ∧ w.heap.size ≤ g2 ∧ g1 ≠ g2) ∧
  (¬ May2 a b → ∃ A n c, e = .returned (.tuple #[.slice A n c, .bool false])) ∧ Below w.heap.size w w'
theorem of_pair {w : World} {na nb : Bool} {sa sb : ByteArray} :
    Calls Try.prog 62 #[.slice (some ⟨w.heap.size, 0, none⟩) 2 2] (w.alloc (.cells #[.bool na, .string sa, .bool nb, .string sb] 26)) (Pair w (na, sa) (nb, sb)) := by
  refine (ofs_any (c := 2) (n := 2) (blk_pair (w := w) (na, sa) (nb, sb)) (by simp) rfl (by omega)).mono ?_
  rintro e w5 ⟨h1, h2⟩
  have hb0 := new_below w (.cells #[.bool na, .string sa, .bool nb, .string sb] 26)
  by_cases hm : May2 (na, sa) (nb, sb)
  · obtain ⟨A5, n5, c5, gs, rfl, hn5, hr5, hi5, hb5, hge⟩ := h1 (may2_all.2 hm)
    obtain ⟨g1, g2, rfl, hx, hy, hne⟩ := ints_two hi5
    obtain ⟨ad, rfl, hadb, p0⟩ := hr5.at_ (k := 0) (by simp)
    obtain ⟨ad', e', _, p1⟩ := hr5.at_ (k := 1) (by simp)
    injection e' with e'
    subst e'
    rw [Addr.add_zero'] at p0
    rw [add_pos (by decide)] at p1
    obtain rfl : n5 = 2 := hn5.out.1
    have h5 := hge g1 (by simp)
    have h6 := hge g2 (by simp)
    rw [World.size_alloc] at h5 h6
    exact ⟨fun _ => ⟨ad, c5, g1, g2, rfl, hadb, p0, p1, hx, hy, by omega, by omega, hne⟩, fun h => absurd hm h, hb0.trans (hb5.mono (by simp))⟩
  · obtain ⟨A5, n5, c5, rfl, hb5⟩ := h2 (fun h => hm (may2_all.1 h))
    exact ⟨fun h => absurd h hm, fun _ => ⟨_, _, _, rfl⟩, hb0.trans (hb5.mono (by simp))⟩
theorem bval_pos : ∀ {l : List UInt8}, Formed l → l ≠ [] → 0 < bval l
  | [], _, h => absurd rfl h
  | b :: r, h, _ => by
    rw [bval_cons]
    have h1 : b ≠ 0 := h b rfl
    have h2 : 0 < b.toNat := by
      rcases Nat.eq_zero_or_pos b.toNat with h0 | h0
      · exact absurd (UInt8.toNat_inj.1 h0) h1
      · exact h0
    exact Nat.lt_of_lt_of_le (Nat.mul_pos h2 (Nat.pow_pos (by decide))) (Nat.le_add_right _ _)
theorem ptr_ne {w : World} {ad : Addr} {g : Nat} {z : Int} {q : Option Addr} (hi : IntB w g z) (p : w.cell? ad = some (.pointer q)) : ad.block ≠ g := by
  intro h
  have hs := World.cell?_spot p
  obtain ⟨s, A, n, c, hb⟩ := hi.slot
  have h2 : ad = ⟨g, ad.off, none⟩ := by cases ad; simp_all
  rw [h2, hb.cell] at p
  match ad.off, p with
  | 0, p => exact absurd p (by simp [icells])
  | 1, p => exact absurd p (by simp [icells])
  | _ + 2, p => exact absurd p (by simp [icells])
theorem sg_num {n : Bool} {s : ByteArray} (h : 0 < bval s.data.toList) : sg (num (n, s)) = if n then -1 else 1 := by
  unfold num
  cases n
  · show sg ((bval s.data.toList : Nat) : Int) = 1
    unfold sg; rw [if_neg (by omega), if_neg (by omega)]
  · show sg (-((bval s.data.toList : Nat) : Int)) = -1
    unfold sg; rw [if_neg (by omega), if_pos (by omega)]
/-- an answer of two, whose second is an error's number or a truth; refused: no -/
def Said (w : World) (ok : Prop) (v no : Value) (e : Ending) (w' : World) : Prop := (ok → e = .returned v) ∧ (¬ ok → e = .returned no) ∧ Below w.heap.size w w'

set_option maxRecDepth 100000 in
set_option maxHeartbeats 2000000 in
theorem bits_any {w : World} {na : Bool} {sa : ByteArray} :
    Calls Try.prog 45 #[.agg #[.bool na, .string sa]] w (Said w (MayL na sa.data.toList) (.int .i64 ((bl (num (na, sa)).natAbs : Nat) : Int)) (.int .i64 0)) := by
  have hb1 := new_below w (.cells #[.bool na, .string sa] 26)
  have hO := of_one (w := w.alloc (.cells #[.bool na, .string sa] 26)) (na := na) (sa := sa)
  rw [World.size_alloc] at hO
  have HO := Lib.hid hO
  have Hb := Lib.hid hb1
  clear hO hb1
  go_enter Try.func45, Try.ntmps45
  go_wp2_with fail
  refine HO.out.mono ?_
  rintro e w5 ⟨h1, h2, hb5⟩
  have hb05 := Hb.out.trans (hb5.mono (by simp))
  have H5 := Lib.hid hb05
  clear hb5 hb05
  by_cases hm : MayL na sa.data.toList
  · obtain ⟨ad, c, g, rfl, hadb, p0, hi, hg⟩ := h1 hm
    have Hlen := Lib.hid (len_num (a := (na, sa)) hm)
    have HB := Lib.hid (bitlen_any hi (by have := Hlen.out; omega))
    have Hm := Lib.hid hm
    clear h1 h2 hm hi
    go_wp2_with fail
    refine HB.out.mono ?_
    rintro e w6 ⟨q, rfl, rfl⟩
    go_wp2
    go_ret
    exact ⟨fun _ => rfl, fun h => absurd Hm.out h, below_drewN H5.out q⟩
  · obtain ⟨A5, n5, c5, rfl⟩ := h2 hm
    have Hm := Lib.hid hm
    clear h1 h2 hm
    go_wp2
    go_ret
    exact ⟨fun h => absurd h Hm.out, fun _ => rfl, H5.out⟩
set_option maxRecDepth 100000 in
set_option maxHeartbeats 2000000 in
theorem text_any {w : World} {na : Bool} {sa : ByteArray} :
    Calls Try.prog 33 #[.agg #[.bool na, .string sa]] w (Said w (MayL na sa.data.toList) (.tuple #[.string ⟨(txt (num (na, sa))).toArray⟩, .int .i64 0]) (.tuple #[.string ⟨#[]⟩, .int .i64 2])) := by
  have hb1 := new_below w (.cells #[.bool na, .string sa] 26)
  have hO := of_one (w := w.alloc (.cells #[.bool na, .string sa] 26)) (na := na) (sa := sa)
  rw [World.size_alloc] at hO
  have HO := Lib.hid hO
  have Hb := Lib.hid hb1
  clear hO hb1
  go_enter Try.func33, Try.ntmps33
  go_wp2_with fail
  refine HO.out.mono ?_
  rintro e w5 ⟨h1, h2, hb5⟩
  have hb05 := Hb.out.trans (hb5.mono (by simp))
  have H5 := Lib.hid hb05
  clear hb5 hb05
  by_cases hm : MayL na sa.data.toList
  · obtain ⟨ad, c, g, rfl, hadb, p0, hi, hg⟩ := h1 hm
    have Hlen := Lib.hid (len_num (a := (na, sa)) hm)
    have HB := Lib.hid (string_any hi (by have := Hlen.out; omega))
    have Hm := Lib.hid hm
    clear h1 h2 hm hi
    go_wp2_with fail
    refine HB.out.mono ?_
    rintro e w6 ⟨rfl, hb6⟩
    go_wp2
    refine bodyPost_ret (v := .tuple #[.string ⟨(txt (num (na, sa))).toArray⟩, .int .i64 0]) (by simp [results, Try.results33, go_sem]) rfl ?_
    exact ⟨fun _ => rfl, fun h => absurd Hm.out h, H5.out.trans (hb6.mono H5.out.size)⟩
  · obtain ⟨A5, n5, c5, rfl⟩ := h2 hm
    have Hm := Lib.hid hm
    clear h1 h2 hm
    go_wp2
    refine bodyPost_ret (v := .tuple #[.string ⟨#[]⟩, .int .i64 2]) (by simp [results, Try.results33, go_sem]) rfl ?_
    exact ⟨fun h => absurd h Hm.out, fun _ => rfl, H5.out⟩
set_option maxRecDepth 100000 in
set_option maxHeartbeats 2000000 in
theorem small_any {w : World} {na : Bool} {sa : ByteArray} :
    Calls Try.prog 39 #[.agg #[.bool na, .string sa]] w (Said w (MayL na sa.data.toList) (if -9223372036854775808 ≤ num (na, sa) ∧ num (na, sa) ≤ 9223372036854775807 then .tuple #[.int .i64 (num (na, sa)), .bool true] else .tuple #[.int .i64 0, .bool false]) (.tuple #[.int .i64 0, .bool false])) := by
  have hb1 := new_below w (.cells #[.bool na, .string sa] 26)
  have hO := of_one (w := w.alloc (.cells #[.bool na, .string sa] 26)) (na := na) (sa := sa)
  rw [World.size_alloc] at hO
  have HO := Lib.hid hO
  have Hb := Lib.hid hb1
  obtain ⟨v, hv⟩ : ∃ v : Value, v = (if -9223372036854775808 ≤ num (na, sa) ∧ num (na, sa) ≤ 9223372036854775807 then .tuple #[.int .i64 (num (na, sa)), .bool true] else .tuple #[.int .i64 0, .bool false]) := ⟨_, rfl⟩
  rw [← hv]
  have Hv := Lib.hid hv
  clear hO hb1 hv
  go_enter Try.func39, Try.ntmps39
  go_wp2_with fail
  refine HO.out.mono ?_
  rintro e w5 ⟨h1, h2, hb5⟩
  have hb05 := Hb.out.trans (hb5.mono (by simp))
  have H5 := Lib.hid hb05
  clear hb5 hb05
  by_cases hm : MayL na sa.data.toList
  · obtain ⟨ad, c, g, rfl, hadb, p0, hi, hg⟩ := h1 hm
    have Hlen := Lib.hid (len_num (a := (na, sa)) hm)
    have HI := Lib.hid (isint64_any hi)
    have Hm := Lib.hid hm
    by_cases hf : -9223372036854775808 ≤ num (na, sa) ∧ num (na, sa) ≤ 9223372036854775807
    · have HS := Lib.hid (int64_any hi hf.1 hf.2)
      have Hf := Lib.hid hf
      have hd : decide (-9223372036854775808 ≤ num (na, sa) ∧ num (na, sa) ≤ 9223372036854775807) = true := decide_eq_true hf
      rw [hd] at HI
      clear h1 h2 hm hi hf hd
      go_wp2_with fail
      refine HI.out.mono ?_
      rintro e w6 ⟨rfl, rfl⟩
      go_wp2_with fail
      refine HS.out.mono ?_
      rintro e w6 ⟨rfl, rfl⟩
      go_wp2
      refine bodyPost_ret (v := .tuple #[.int .i64 (num (na, sa)), .bool true]) (by simp [results, Try.results39, go_sem]) rfl ?_
      exact ⟨fun _ => by rw [Hv.out, if_pos Hf.out], fun h => absurd Hm.out h, H5.out⟩
    · have hd : decide (-9223372036854775808 ≤ num (na, sa) ∧ num (na, sa) ≤ 9223372036854775807) = false := decide_eq_false hf
      rw [hd] at HI
      have Hf := Lib.hid hf
      clear h1 h2 hm hi hf hd
      go_wp2_with fail
      refine HI.out.mono ?_
      rintro e w6 ⟨rfl, rfl⟩
      go_wp2
      refine bodyPost_ret (v := .tuple #[.int .i64 0, .bool false]) (by simp [results, Try.results39, go_sem]) rfl ?_
      exact ⟨fun _ => by rw [Hv.out, if_neg Hf.out], fun h => absurd Hm.out h, H5.out⟩
  · obtain ⟨A5, n5, c5, rfl⟩ := h2 hm
    have Hm := Lib.hid hm
    clear h1 h2 hm
    go_wp2
    refine bodyPost_ret (v := .tuple #[.int .i64 0, .bool false]) (by simp [results, Try.results39, go_sem]) rfl ?_
    exact ⟨fun h => absurd h Hm.out, fun _ => rfl, H5.out⟩
set_option maxRecDepth 100000 in
set_option maxHeartbeats 2000000 in
theorem wsign_any {w : World} {na : Bool} {sa : ByteArray} :
    Calls Try.prog 44 #[.agg #[.bool na, .string sa]] w (Said w (MayL na sa.data.toList) (.int .i64 (sg (num (na, sa)))) (.int .i64 0)) := by
  have hb1 := new_below w (.cells #[.bool na, .string sa] 26)
  by_cases hm : MayL na sa.data.toList
  · have HC := Lib.hid (check_ok (w := w.alloc (.cells #[.bool na, .string sa] 26)) hm)
    have hl : sa.data.toList.length = sa.size := Array.length_toList
    have Hm := Lib.hid hm
    rcases Nat.eq_zero_or_pos sa.size with h0 | h0
    · have he : sa.data.toList = [] := List.eq_nil_of_length_eq_zero (by omega)
      obtain rfl := str_empty he
      obtain rfl := hm.2.1 he
      have Hb := Lib.hid hb1
      clear hl h0 he hb1 hm
      go_enter Try.func44, Try.ntmps44
      go_wp2_with fail
      refine HC.out.mono ?_
      rintro e w6 ⟨rfl, hb6⟩
      have hc0 : w6.cell? ⟨w.heap.size, 0, none⟩ = some (.bool false) := ((Blk.new w 26 #[.bool false, .string ⟨#[]⟩]).below hb6 (by simp)).cell 0
      have hc1 : w6.cell? ⟨w.heap.size, 1, none⟩ = some (.string ⟨#[]⟩) := ((Blk.new w 26 #[.bool false, .string ⟨#[]⟩]).below hb6 (by simp)).cell 1
      have Hb6 := Lib.hid hb6
      clear hb6
      go_wp2
      go_ret
      exact ⟨fun _ => rfl, fun h => absurd Hm.out h, Hb.out.trans (Hb6.out.mono (by simp))⟩
    · obtain ⟨e1, e2⟩ := str_facts h0
      have hpos : 0 < bval sa.data.toList := bval_pos hm.2.2 (by intro h; rw [h] at hl; simp at hl; omega)
      have Hb := Lib.hid hb1
      have Hpos := Lib.hid hpos
      clear hl h0 hb1 hm hpos
      cases na with
      | true =>
        go_enter Try.func44, Try.ntmps44
        go_wp2_with fail
        refine HC.out.mono ?_
        rintro e w6 ⟨rfl, hb6⟩
        have hc0 : w6.cell? ⟨w.heap.size, 0, none⟩ = some (.bool true) := ((Blk.new w 26 #[.bool true, .string sa]).below hb6 (by simp)).cell 0
        have hc1 : w6.cell? ⟨w.heap.size, 1, none⟩ = some (.string sa) := ((Blk.new w 26 #[.bool true, .string sa]).below hb6 (by simp)).cell 1
        have Hb6 := Lib.hid hb6
        clear hb6
        go_wp2
        go_ret
        exact ⟨fun _ => by rw [sg_num Hpos.out]; rfl, fun h => absurd Hm.out h, Hb.out.trans (Hb6.out.mono (by simp))⟩
      | false =>
        go_enter Try.func44, Try.ntmps44
        go_wp2_with fail
        refine HC.out.mono ?_
        rintro e w6 ⟨rfl, hb6⟩
        have hc0 : w6.cell? ⟨w.heap.size, 0, none⟩ = some (.bool false) := ((Blk.new w 26 #[.bool false, .string sa]).below hb6 (by simp)).cell 0
        have hc1 : w6.cell? ⟨w.heap.size, 1, none⟩ = some (.string sa) := ((Blk.new w 26 #[.bool false, .string sa]).below hb6 (by simp)).cell 1
        have Hb6 := Lib.hid hb6
        clear hb6
        go_wp2
        go_ret
        exact ⟨fun _ => by rw [sg_num Hpos.out]; rfl, fun h => absurd Hm.out h, Hb.out.trans (Hb6.out.mono (by simp))⟩
  · have HC := Lib.hid (check_no (w := w.alloc (.cells #[.bool na, .string sa] 26)) hm)
    have Hm := Lib.hid hm
    have Hb := Lib.hid hb1
    clear hm hb1
    go_enter Try.func44, Try.ntmps44
    go_wp2_with fail
    refine HC.out.mono ?_
    rintro e w6 ⟨rfl, hb6⟩
    have Hb6 := Lib.hid hb6
    clear hb6
    go_wp2
    go_ret
    exact ⟨fun h => absurd h Hm.out, fun _ => rfl, Hb.out.trans (Hb6.out.mono (by simp))⟩
set_option maxRecDepth 100000 in
set_option maxHeartbeats 2000000 in
theorem wcmp_any {w : World} {na nb : Bool} {sa sb : ByteArray} :
    Calls Try.prog 26 #[.agg #[.bool na, .string sa], .agg #[.bool nb, .string sb]] w (Said w (May2 (na, sa) (nb, sb)) (.tuple #[.int .i64 (cmpI (num (na, sa)) (num (nb, sb))), .int .i64 0]) (.tuple #[.int .i64 0, .int .i64 2])) := by
  have hb1 := new_below w (.cells #[.bool na, .string sa] 26)
  have hb2 := hb1.alloc (by simp) (.cells #[.bool nb, .string sb] 26)
  have hO := of_pair (w := (w.alloc (.cells #[.bool na, .string sa] 26)).alloc (.cells #[.bool nb, .string sb] 26)) (na := na) (sa := sa) (nb := nb) (sb := sb)
  rw [World.size_alloc, World.size_alloc] at hO
  have HO := Lib.hid hO
  have Hb := Lib.hid hb2
  clear hO hb1 hb2
  go_enter Try.func26, Try.ntmps26
  go_wp2_with fail
  refine HO.out.mono ?_
  rintro e w5 ⟨h1, h2, hb5⟩
  have hb05 := Hb.out.trans (hb5.mono (by simp; omega))
  have H5 := Lib.hid hb05
  clear hb5 hb05
  by_cases hm : May2 (na, sa) (nb, sb)
  · obtain ⟨ad, c, g1, g2, rfl, hadb, p0, p1, hx, hy, _, _, _⟩ := h1 hm
    have HK := Lib.hid (fun q => cmp_any (hx.drewN q) (hy.drewN q) (by have := len_num hm.1; omega) (by have := len_num hm.2; omega))
    have Hm := Lib.hid hm
    clear h1 h2 hm hx hy
    go_wp2_with fail
    refine wp_region_noPanic ?_
    refine wp_region_HK (fun w' => w'.cell? ad = some (.pointer (some ⟨g1, 0, none⟩)) ∧ w'.cell? ⟨ad.block, ad.off + 1, none⟩ = some (.pointer (some ⟨g2, 0, none⟩))) 7 (by kernel_rfl) ⟨p0, p1⟩ (fun hHeld => ?_)
    refine wpHK_take (i := 0) (oi := Oper.mk (some 17) _ _ _ _ _) (v := ?_) rfl (by kernel_rfl) (by kernel_rfl) (by kernel_rfl) (by kernel_rfl) (fun _ _ _ h => h) (Or.inl ⟨by rfl, ?_⟩) (by assumption) ?_
    rotate_left
    · (intro w' hSw; (try dsimp only at hSw); (obtain ⟨s1, s2⟩ := hSw); go_simp; try with_reducible rfl)
    try simp only [Act.put, List.setIfInBounds_toArray, List.set_cons_zero, List.set_cons_succ]
    refine wpHK_take (i := 1) (oi := Oper.mk (some 18) _ _ _ _ _) (v := ?_) rfl (by kernel_rfl) (by kernel_rfl) (by kernel_rfl) (by kernel_rfl) (fun _ _ _ h => h) (Or.inl ⟨by rfl, ?_⟩) (by assumption) ?_
    rotate_left
    · (intro w' hSw; (try dsimp only at hSw); (obtain ⟨s1, s2⟩ := hSw); go_simp; try with_reducible rfl)
    try simp only [Act.put, List.setIfInBounds_toArray, List.set_cons_zero, List.set_cons_succ]
    refine wpHK_take (i := 2) (oi := Oper.mk (some 19) _ _ _ _ _) (v := ?_) rfl (by kernel_rfl) (by kernel_rfl) (by kernel_rfl) (by kernel_rfl) (fun _ _ _ h => h) (Or.inl ⟨by rfl, ?_⟩) (by assumption) ?_
    rotate_left
    · (intro w' hSw; (try dsimp only at hSw); (obtain ⟨s1, s2⟩ := hSw); go_simp; try with_reducible rfl)
    try simp only [Act.put, List.setIfInBounds_toArray, List.set_cons_zero, List.set_cons_succ]
    refine wpHK_take (i := 3) (oi := Oper.mk (some 20) _ _ _ _ _) (v := ?_) rfl (by kernel_rfl) (by kernel_rfl) (by kernel_rfl) (by kernel_rfl) (fun _ _ _ h => h) (Or.inl ⟨by rfl, ?_⟩) (by assumption) ?_
    rotate_left
    · (intro w' hSw; (try dsimp only at hSw); (obtain ⟨s1, s2⟩ := hSw); go_simp; try with_reducible rfl)
    try simp only [Act.put, List.setIfInBounds_toArray, List.set_cons_zero, List.set_cons_succ]
    refine wpHK_take (i := 4) (oi := Oper.mk (some 21) _ _ _ _ _) (v := ?_) rfl (by kernel_rfl) (by kernel_rfl) (by kernel_rfl) (by kernel_rfl) (fun _ _ _ h => h) (Or.inl ⟨by rfl, ?_⟩) (by assumption) ?_
    rotate_left
    · (intro w' hSw; (try dsimp only at hSw); (obtain ⟨s1, s2⟩ := hSw); go_simp; try with_reducible rfl)
    try simp only [Act.put, List.setIfInBounds_toArray, List.set_cons_zero, List.set_cons_succ]
    refine wpHK_take (i := 5) (oi := Oper.mk (some 22) _ _ _ _ _) (v := ?_) rfl (by kernel_rfl) (by kernel_rfl) (by kernel_rfl) (by kernel_rfl) (fun _ _ _ h => h) (Or.inl ⟨by rfl, ?_⟩) (by assumption) ?_
    rotate_left
    · (intro w' hSw; (try dsimp only at hSw); (obtain ⟨s1, s2⟩ := hSw); go_simp; try with_reducible rfl)
    try simp only [Act.put, List.setIfInBounds_toArray, List.set_cons_zero, List.set_cons_succ]
    refine wpHK_one (j := 6) (o := Oper.mk (some 23) _ _ _ _ _) rfl (by kernel_rfl) (fun K hK => ?_)
    go_simp
    refine (HK.out _).mono ?_
    rintro e w6 ⟨q, rfl, rfl⟩
    try simp only []
    refine hK.out _ _ (And.intro p0 p1) (fun _ => ?_)
    clear hK K hHeld
    have hHeld := (And.intro p0 p1)
    try simp only [Act.put, List.setIfInBounds_toArray, List.set_cons_zero, List.set_cons_succ]
    refine wpHK_pure (i := 7) (oi := Oper.mk (some 4) _ _ _ _ _) (v := ?_) rfl (by kernel_rfl) (by kernel_rfl) (by kernel_rfl) (fun _ _ _ h => h) (Or.inl ⟨by rfl, ?_⟩) ?_
    rotate_left
    · (intro w' _; go_simp; try with_reducible rfl)
    try simp only [Act.put, List.setIfInBounds_toArray, List.set_cons_zero, List.set_cons_succ]
    refine wpHK_pure (i := 8) (oi := Oper.mk (some 5) _ _ _ _ _) (v := ?_) rfl (by kernel_rfl) (by kernel_rfl) (by kernel_rfl) (fun _ _ _ h => h) (Or.inl ⟨by rfl, ?_⟩) ?_
    rotate_left
    · (intro w' _; go_simp; try with_reducible rfl)
    try simp only [Act.put, List.setIfInBounds_toArray, List.set_cons_zero, List.set_cons_succ]
    refine wpHK_done (by kernel_rfl) ?_ _
    refine NoPanic.normal ?_
    go_wp2_with fail
    refine bodyPost_ret (v := .tuple #[.int .i64 (cmpI (num (na, sa)) (num (nb, sb))), .int .i64 0]) (by simp [results, Try.results26, go_sem]) rfl ?_
    exact ⟨fun _ => rfl, fun h => absurd Hm.out h, below_drewN (below_drewN H5.out 1) q⟩
  · obtain ⟨A5, n5, c5, rfl⟩ := h2 hm
    have Hm := Lib.hid hm
    clear h1 h2 hm
    go_wp2
    refine bodyPost_ret (v := .tuple #[.int .i64 0, .int .i64 2]) (by simp [results, Try.results26, go_sem]) rfl ?_
    exact ⟨fun h => absurd h Hm.out, fun _ => rfl, H5.out⟩
theorem ans_form {W w5 : World} {ok : Prop} {z : Int} {e : Ending} (h : Ans W ok z e w5) : ∃ (sn : Bool) (bn : ByteArray) (cd : Int), e = .returned (.tuple #[.agg #[.bool sn, .string bn], .int .i64 cd]) ∧ ∀ w w', Below w.heap.size w w' → Ans w ok z (.returned (.tuple #[.agg #[.bool sn, .string bn], .int .i64 cd])) w' := by
  obtain ⟨t1, t2, t3, _⟩ := h
  by_cases hm : ok
  · by_cases hf : fits z
    · exact ⟨_, _, 0, t1 hm hf, fun w w' hb => ⟨fun _ _ => rfl, fun _ h => absurd hf h, fun h => absurd hm h, hb⟩⟩
    · exact ⟨_, _, 4, t2 hm hf, fun w w' hb => ⟨fun _ h => absurd h hf, fun _ _ => rfl, fun h => absurd hm h, hb⟩⟩
  · exact ⟨_, _, 2, t3 hm, fun w w' hb => ⟨fun h => absurd h hm, fun h => absurd h hm, fun _ => rfl, hb⟩⟩
theorem mayL_zero : MayL false (⟨#[]⟩ : ByteArray).data.toList := ⟨Nat.zero_le _, fun _ => rfl, fun x hx => by cases hx⟩
theorem num_zero : num (false, ⟨#[]⟩) = 0 := rfl
theorem may2_left {a : Bool × ByteArray} : May2 (false, ⟨#[]⟩) a ↔ MayL a.1 a.2.data.toList := ⟨fun h => h.2, fun h => ⟨mayL_zero, h⟩⟩
theorem may2_right {a : Bool × ByteArray} : May2 a (false, ⟨#[]⟩) ↔ MayL a.1 a.2.data.toList := ⟨fun h => h.1, fun h => ⟨h, mayL_zero⟩⟩
set_option maxRecDepth 100000 in
set_option maxHeartbeats 2000000 in
theorem wneg_any {w : World} {na : Bool} {sa : ByteArray} :
    Calls Try.prog 37 #[.agg #[.bool na, .string sa]] w (Ans w (MayL na sa.data.toList) (-num (na, sa))) := by
  have hb1 := new_below w (.cells #[.bool na, .string sa] 26)
  have hb3 := hb1.alloc (by simp) (.cells #[.bool false, .string ⟨#[]⟩] 26)
  have hT := two81_any (w := (w.alloc (.cells #[.bool na, .string sa] 26)).alloc (.cells #[.bool false, .string ⟨#[]⟩] 26)) (na := false) (nb := na) (sa := ⟨#[]⟩) (sb := sa) does81 len_sub
  rw [propext may2_left] at hT
  dsimp only at hT
  rw [num_zero, Int.zero_sub] at hT
  have hbk := (Blk.new (w.alloc (.cells #[.bool na, .string sa] 26)) 26 #[.bool false, .string ⟨#[]⟩])
  have HT := Lib.hid hT
  have Hb := Lib.hid (And.intro hb3 hbk)
  clear hT hb1 hb3 hbk
  generalize -num (na, sa) = z at *
  go_enter Try.func37, Try.ntmps37
  go_wp2_with fail
  refine HT.out.mono ?_
  intro e w5 hA
  have hb5 := hA.2.2.2
  obtain ⟨sn, bn, cd, rfl, hans⟩ := ans_form hA
  have hblk5 := Hb.out.2.below hb5 (by simp)
  rw [World.size_alloc] at hblk5
  have hb05 := Hb.out.1.trans (hb5.mono (by simp; omega))
  have d0 : w5.cell? ⟨w.heap.size + 1, 0, none⟩ = some (.bool false) := hblk5.cell 0
  have d1 : w5.cell? ⟨w.heap.size + 1, 1, none⟩ = some (.string ⟨#[]⟩) := hblk5.cell 1
  have f0 := hblk5.frozen 0
  have f1 := hblk5.frozen 1
  have Hans := Lib.hid hans
  clear hb5 hblk5 hans hA
  go_wp2_with fail
  refine bodyPost_ret (v := .tuple #[.agg #[.bool sn, .string bn], .int .i64 cd]) (by simp [results, Try.results37, go_sem, d0, d1]) rfl ?_
  exact Hans.out _ _ ((hb05.setCell (by show w.heap.size ≤ w.heap.size + 1; omega) _).setCell (by show w.heap.size ≤ w.heap.size + 1; omega) _)
set_option maxRecDepth 100000 in
set_option maxHeartbeats 2000000 in
theorem wabs_any {w : World} {na : Bool} {sa : ByteArray} :
    Calls Try.prog 38 #[.agg #[.bool na, .string sa]] w (Ans w (MayL na sa.data.toList) ((num (na, sa)).natAbs : Int)) := by
  have hb1 := new_below w (.cells #[.bool na, .string sa] 26)
  have hb3 := hb1.alloc (by simp) (.cells #[.bool false, .string ⟨#[]⟩] 26)
  have HS := Lib.hid (wsign_any (w := (w.alloc (.cells #[.bool na, .string sa] 26)).alloc (.cells #[.bool false, .string ⟨#[]⟩] 26)) (na := na) (sa := sa))
  have hbk := (Blk.new (w.alloc (.cells #[.bool na, .string sa] 26)) 26 #[.bool false, .string ⟨#[]⟩])
  have hbx := (Blk.new w 26 #[.bool na, .string sa]).alloc (.cells #[.bool false, .string ⟨#[]⟩] 26)
  have Hb := Lib.hid (And.intro hb3 (And.intro hbk hbx))
  have HT : Hid (∀ W : World, Calls Try.prog 80 #[.agg #[.bool na, .string sa], .agg #[.bool false, .string ⟨#[]⟩], .func (.func 63) #[] #[]] W (Ans W (MayL na sa.data.toList) (num (na, sa)))) := by
    intro W
    have hT := two63_any (w := W) (na := na) (nb := false) (sa := sa) (sb := ⟨#[]⟩) does63 len_add
    rw [propext may2_right] at hT
    dsimp only at hT
    rw [num_zero, Int.add_zero] at hT
    exact hT
  have HN := Lib.hid (fun W : World => wneg_any (w := W) (na := na) (sa := sa))
  clear hb1 hb3 hbk hbx
  obtain ⟨z, hz⟩ : ∃ z : Int, z = ((num (na, sa)).natAbs : Int) := ⟨_, rfl⟩
  rw [← hz]
  obtain ⟨x, hx⟩ : ∃ x : Int, x = num (na, sa) := ⟨_, rfl⟩
  rw [← hx] at HS HT HN hz
  by_cases hc : MayL na sa.data.toList ∧ x < 0
  · have hzx : z = -x := by omega
    rw [← hzx] at HN
    have hs : (Value.int .i64 (sg x)) = .int .i64 (-1) := by unfold sg; rw [if_neg (by omega), if_pos hc.2]
    rw [hs] at HS
    have Hc := Lib.hid hc
    clear hc hz hx hzx hs HT
    go_enter Try.func38, Try.ntmps38
    go_wp2_with fail
    refine HS.out.mono ?_
    rintro e w4 ⟨h1, _, hb4⟩
    obtain rfl := h1 Hc.out.1
    have hbx4 := Hb.out.2.2.below hb4 (by simp; omega)
    have c0 : w4.cell? ⟨w.heap.size, 0, none⟩ = some (.bool na) := hbx4.cell 0
    have c1 : w4.cell? ⟨w.heap.size, 1, none⟩ = some (.string sa) := hbx4.cell 1
    have hblk4 := Hb.out.2.1.below hb4 (by simp)
    have hsz4 := hb4.size
    rw [World.size_alloc, World.size_alloc] at hsz4
    have Hb04 := Lib.hid (And.intro (Hb.out.1.trans (hb4.mono (by simp; omega))) (And.intro hblk4 hsz4))
    clear h1 hb4 hbx4 hblk4 hsz4
    go_wp2_with fail
    refine (HN.out _).mono ?_
    intro e w5 hA
    have hb5 := hA.2.2.2
    obtain ⟨sn, bn, cd, rfl, hans⟩ := ans_form hA
    have hblk5 := Hb04.out.2.1.below hb5 (by have := Hb04.out.2.2; simp; omega)
    rw [World.size_alloc] at hblk5
    have hb05 := Hb04.out.1.trans (hb5.mono Hb04.out.1.size)
    have d0 : w5.cell? ⟨w.heap.size + 1, 0, none⟩ = some (.bool false) := hblk5.cell 0
    have d1 : w5.cell? ⟨w.heap.size + 1, 1, none⟩ = some (.string ⟨#[]⟩) := hblk5.cell 1
    have f0 := hblk5.frozen 0
    have f1 := hblk5.frozen 1
    have Hans := Lib.hid hans
    clear hb5 hblk5 hans hA
    go_wp2_with fail
    refine bodyPost_ret (v := .tuple #[.agg #[.bool sn, .string bn], .int .i64 cd]) (by simp [results, Try.results38, go_sem, d0, d1]) rfl ?_
    exact Hans.out _ _ ((hb05.setCell (by show w.heap.size ≤ w.heap.size + 1; omega) _).setCell (by show w.heap.size ≤ w.heap.size + 1; omega) _)
  · have Hfin : Hid (∀ v w', Ans w (MayL na sa.data.toList) x v w' → Ans w (MayL na sa.data.toList) z v w') := by
      intro v w' h
      by_cases hm : MayL na sa.data.toList
      · have : z = x := by
          have : ¬ x < 0 := fun h => hc ⟨hm, h⟩
          omega
        rw [this]; exact h
      · exact ⟨fun h => absurd h hm, fun h => absurd h hm, fun h' => h.2.2.1 h', h.2.2.2⟩
    have Hs : Hid (∀ e w', Said ((w.alloc (.cells #[.bool na, .string sa] 26)).alloc (.cells #[.bool false, .string ⟨#[]⟩] 26)) (MayL na sa.data.toList) (.int .i64 (sg x)) (.int .i64 0) e w' → ∃ s : Int, e = .returned (.int .i64 s) ∧ decide (s < 0) = false) := by
      intro e w' h
      by_cases hm : MayL na sa.data.toList
      · refine ⟨_, h.1 hm, ?_⟩
        have : ¬ x < 0 := fun h => hc ⟨hm, h⟩
        by_cases h0 : x = 0
        · rw [h0]; rfl
        · unfold sg; rw [if_neg h0, if_neg this]; rfl
      · exact ⟨_, h.2.1 hm, rfl⟩
    clear hc hz hx HN
    go_enter Try.func38, Try.ntmps38
    go_wp2_with fail
    refine HS.out.mono ?_
    intro e w4 hS
    have hb4 := hS.2.2
    obtain ⟨s, rfl, hs⟩ := Hs.out _ _ hS
    have hbx4 := Hb.out.2.2.below hb4 (by simp; omega)
    have c0 : w4.cell? ⟨w.heap.size, 0, none⟩ = some (.bool na) := hbx4.cell 0
    have c1 : w4.cell? ⟨w.heap.size, 1, none⟩ = some (.string sa) := hbx4.cell 1
    have hblk4 := Hb.out.2.1.below hb4 (by simp)
    have hsz4 := hb4.size
    rw [World.size_alloc, World.size_alloc] at hsz4
    have Hb04 := Lib.hid (And.intro (Hb.out.1.trans (hb4.mono (by simp; omega))) (And.intro hblk4 hsz4))
    clear hS hb4 hbx4 hblk4 hsz4
    go_wp2_with fail
    refine (HT.out _).mono ?_
    intro e w5 hA
    have hb5 := hA.2.2.2
    obtain ⟨sn, bn, cd, rfl, hans⟩ := ans_form hA
    have hblk5 := Hb04.out.2.1.below hb5 (by have := Hb04.out.2.2; simp; omega)
    rw [World.size_alloc] at hblk5
    have hb05 := Hb04.out.1.trans (hb5.mono Hb04.out.1.size)
    have d0 : w5.cell? ⟨w.heap.size + 1, 0, none⟩ = some (.bool false) := hblk5.cell 0
    have d1 : w5.cell? ⟨w.heap.size + 1, 1, none⟩ = some (.string ⟨#[]⟩) := hblk5.cell 1
    have f0 := hblk5.frozen 0
    have f1 := hblk5.frozen 1
    have Hans := Lib.hid hans
    clear hb5 hblk5 hans hA
    go_wp2_with fail
    refine bodyPost_ret (v := .tuple #[.agg #[.bool sn, .string bn], .int .i64 cd]) (by simp [results, Try.results38, go_sem, d0, d1]) rfl ?_
    exact Hfin.out _ _ <| Hans.out _ _ ((hb05.setCell (by show w.heap.size ≤ w.heap.size + 1; omega) _).setCell (by show w.heap.size ≤ w.heap.size + 1; omega) _)
set_option maxRecDepth 100000 in
set_option maxHeartbeats 2000000 in
theorem bit_of {w : World} {na : Bool} {sa : ByteArray} {i : Int} (hi : i ≤ 9223372036854775807) :
    Calls Try.prog 40 #[.agg #[.bool na, .string sa], .int .i64 i] w (Said w (MayL na sa.data.toList ∧ 0 ≤ i) (.tuple #[.int .i64 (((num (na, sa)).natAbs / 2 ^ i.toNat % 2 : Nat) : Int), .int .i64 0]) (.tuple #[.int .i64 0, .int .i64 2])) := by
  have hb1 := new_below w (.cells #[.bool na, .string sa] 26)
  have hO := of_one (w := w.alloc (.cells #[.bool na, .string sa] 26)) (na := na) (sa := sa)
  rw [World.size_alloc] at hO
  have HO := Lib.hid hO
  have Hb := Lib.hid hb1
  have Hii := Lib.hid hi
  clear hO hb1 hi
  go_enter Try.func40, Try.ntmps40
  go_wp2_with fail
  refine HO.out.mono ?_
  rintro e w5 ⟨h1, h2, hb5⟩
  have hb05 := Hb.out.trans (hb5.mono (by simp))
  have H5 := Lib.hid hb05
  clear hb5 hb05
  by_cases hm : MayL na sa.data.toList
  · obtain ⟨ad, c, g, rfl, hadb, p0, hi, hg⟩ := h1 hm
    have Hlen := Lib.hid (len_num (a := (na, sa)) hm)
    by_cases hi0 : i < 0
    · have Hm := Lib.hid hm
      have Hi := Lib.hid hi0
      have hd : decide (i < 0) = true := decide_eq_true hi0
      clear h1 h2 hm hi hi0
      go_wp2
      refine bodyPost_ret (v := .tuple #[.int .i64 0, .int .i64 2]) (by simp [results, Try.results40, go_sem]) rfl ?_
      exact ⟨fun h => absurd Hi.out (by omega), fun _ => rfl, H5.out⟩
    · obtain ⟨k, rfl⟩ := Int.eq_ofNat_of_zero_le (show 0 ≤ i by omega)
      obtain ⟨b, hb⟩ : ∃ b : Nat, b = (num (na, sa)).natAbs / 2 ^ k % 2 := ⟨_, rfl⟩
      have hb2 : b < 2 := by rw [hb]; exact Nat.mod_lt _ (by decide)
      have hd : decide ((k : Int) < 0) = false := decide_eq_false (by omega)
      have hne := ptr_ne hi p0
      have HA := Lib.hid (fun q => abs_any (hi.drewN q).slot (hi.drewN q) (by have := Hlen.out; omega))
      have Hk := Lib.hid (And.intro (show k ≤ 9223372036854775807 by have := Hii.out; omega) hi.slot)
      have Hm := Lib.hid hm
      have Hb1 := Lib.hid (And.intro hb hb2)
      have Hg := Lib.hid hg
      clear h1 h2 hm hi hi0 hb hb2 hg
      go_wp2_with fail
      refine wp_region_noPanic ?_
      refine wp_region_HK (fun w' => w'.cell? ad = some (.pointer (some ⟨g, 0, none⟩))) 8 (by kernel_rfl) p0 (fun hHeld => ?_)
      refine wpHK_take (i := 0) (oi := Oper.mk (some 20) _ _ _ _ _) (v := ?_) rfl (by kernel_rfl) (by kernel_rfl) (by kernel_rfl) (by kernel_rfl) (fun _ _ _ h => h) (Or.inl ⟨by rfl, ?_⟩) (by assumption) ?_
      rotate_left
      · (intro w' hSw; (try dsimp only at hSw); (obtain s1 := hSw); go_simp; try with_reducible rfl)
      try simp only [Act.put, List.setIfInBounds_toArray, List.set_cons_zero, List.set_cons_succ]
      refine wpHK_take (i := 1) (oi := Oper.mk (some 21) _ _ _ _ _) (v := ?_) rfl (by kernel_rfl) (by kernel_rfl) (by kernel_rfl) (by kernel_rfl) (fun _ _ _ h => h) (Or.inl ⟨by rfl, ?_⟩) (by assumption) ?_
      rotate_left
      · (intro w' hSw; (try dsimp only at hSw); (obtain s1 := hSw); go_simp; try with_reducible rfl)
      try simp only [Act.put, List.setIfInBounds_toArray, List.set_cons_zero, List.set_cons_succ]
      refine wpHK_take (i := 2) (oi := Oper.mk (some 22) _ _ _ _ _) (v := ?_) rfl (by kernel_rfl) (by kernel_rfl) (by kernel_rfl) (by kernel_rfl) (fun _ _ _ h => h) (Or.inl ⟨by rfl, ?_⟩) (by assumption) ?_
      rotate_left
      · (intro w' hSw; (try dsimp only at hSw); (obtain s1 := hSw); go_simp; try with_reducible rfl)
      try simp only [Act.put, List.setIfInBounds_toArray, List.set_cons_zero, List.set_cons_succ]
      refine wpHK_take (i := 3) (oi := Oper.mk (some 23) _ _ _ _ _) (v := ?_) rfl (by kernel_rfl) (by kernel_rfl) (by kernel_rfl) (by kernel_rfl) (fun _ _ _ h => h) (Or.inl ⟨by rfl, ?_⟩) (by assumption) ?_
      rotate_left
      · (intro w' hSw; (try dsimp only at hSw); (obtain s1 := hSw); go_simp; try with_reducible rfl)
      try simp only [Act.put, List.setIfInBounds_toArray, List.set_cons_zero, List.set_cons_succ]
      refine wpHK_take (i := 4) (oi := Oper.mk (some 24) _ _ _ _ _) (v := ?_) rfl (by kernel_rfl) (by kernel_rfl) (by kernel_rfl) (by kernel_rfl) (fun _ _ _ h => h) (Or.inl ⟨by rfl, ?_⟩) (by assumption) ?_
      rotate_left
      · (intro w' hSw; (try dsimp only at hSw); (obtain s1 := hSw); go_simp; try with_reducible rfl)
      try simp only [Act.put, List.setIfInBounds_toArray, List.set_cons_zero, List.set_cons_succ]
      refine wpHK_take (i := 5) (oi := Oper.mk (some 25) _ _ _ _ _) (v := ?_) rfl (by kernel_rfl) (by kernel_rfl) (by kernel_rfl) (by kernel_rfl) (fun _ _ _ h => h) (Or.inl ⟨by rfl, ?_⟩) (by assumption) ?_
      rotate_left
      · (intro w' hSw; (try dsimp only at hSw); (obtain s1 := hSw); go_simp; try with_reducible rfl)
      try simp only [Act.put, List.setIfInBounds_toArray, List.set_cons_zero, List.set_cons_succ]
      refine wpHK_take (i := 7) (oi := Oper.mk (some 27) _ _ _ _ _) (v := ?_) rfl (by kernel_rfl) (by kernel_rfl) (by kernel_rfl) (by kernel_rfl) (fun _ _ _ h => h) (Or.inl ⟨by rfl, ?_⟩) (by assumption) ?_
      rotate_left
      · (intro w' hSw; (try dsimp only at hSw); (obtain s1 := hSw); go_simp; try with_reducible rfl)
      try simp only [Act.put, List.setIfInBounds_toArray, List.set_cons_zero, List.set_cons_succ]
      refine wpHK_one (j := 6) (o := Oper.mk (some 26) _ _ _ _ _) rfl (by kernel_rfl) (fun K hK => ?_)
      go_simp
      refine (HA.out _).mono ?_
      rintro e w6 ⟨rfl, hi6, hg6⟩
      have p6 : w6.cell? ad = some (.pointer (some ⟨g, 0, none⟩)) := hg6.cell (show (w5.drewN 1).cell? ad = _ from p0) (by intro h; injection h with h; exact hne h)
      have HBB := Lib.hid (bit_any (i := k) hi6 (by have := Hlen.out; rw [Int.natAbs_natCast]; omega) Hk.out.1)
      have Hg6 := Lib.hid hg6
      clear hi6 hg6
      try simp only []
      refine hK.out _ _ p6 (fun _ => ?_)
      clear hK K hHeld
      have hHeld := p6
      try simp only [Act.put, List.setIfInBounds_toArray, List.set_cons_zero, List.set_cons_succ]
      refine wpHK_tail (j := 8) (o := Oper.mk (some 28) _ _ _ _ _) rfl (by kernel_rfl) (by decide) (fun K hK => ?_)
      go_simp
      refine HBB.out.mono ?_
      rintro e w7 ⟨rfl, rfl⟩
      rw [Int.natAbs_natCast, ← Hb1.out.1]
      try simp only []
      refine hK.out _ _ ?_
      clear hK K
      try simp only [Act.put, List.setIfInBounds_toArray, List.set_cons_zero, List.set_cons_succ]
      refine wpHK_pure (i := 9) (oi := Oper.mk (some 29) _ _ _ _ _) (v := ?_) rfl (by kernel_rfl) (by kernel_rfl) (by kernel_rfl) (fun _ _ _ h => h) (Or.inl ⟨by rfl, ?_⟩) ?_
      rotate_left
      · (intro w' _; go_simp; try with_reducible rfl)
      try simp only [Act.put, List.setIfInBounds_toArray, List.set_cons_zero, List.set_cons_succ]
      refine wpHK_pure (i := 10) (oi := Oper.mk (some 4) _ _ _ _ _) (v := ?_) rfl (by kernel_rfl) (by kernel_rfl) (by kernel_rfl) (fun _ _ _ h => h) (Or.inl ⟨by rfl, ?_⟩) ?_
      rotate_left
      · (intro w' _; go_simp; try with_reducible rfl)
      try simp only [Act.put, List.setIfInBounds_toArray, List.set_cons_zero, List.set_cons_succ]
      refine wpHK_pure (i := 11) (oi := Oper.mk (some 5) _ _ _ _ _) (v := ?_) rfl (by kernel_rfl) (by kernel_rfl) (by kernel_rfl) (fun _ _ _ h => h) (Or.inl ⟨by rfl, ?_⟩) ?_
      rotate_left
      · (intro w' _; go_simp; try with_reducible rfl)
      try simp only [Act.put, List.setIfInBounds_toArray, List.set_cons_zero, List.set_cons_succ]
      refine wpHK_done (by kernel_rfl) ?_ _
      refine NoPanic.normal ?_
      go_wp2_with fail
      have hwr : IntKind.i64.wrap (b : Int) = (b : Int) := IntWalk.i64_in _ (by have := Hb1.out.2; omega)
      refine bodyPost_ret (v := .tuple #[.int .i64 (b : Int), .int .i64 0]) (by simp [results, Try.results40, go_sem, hwr]) rfl ?_
      exact ⟨fun _ => by rw [Hb1.out.1]; rfl, fun h => absurd ⟨Hm.out, by omega⟩ h, up_row (below_drewN H5.out 1) Hg6.out H5.out.size (by have := Hg.out; rw [World.size_alloc] at this; omega)⟩
  · obtain ⟨A5, n5, c5, rfl⟩ := h2 hm
    have Hm := Lib.hid hm
    clear h1 h2 hm
    go_wp2
    refine bodyPost_ret (v := .tuple #[.int .i64 0, .int .i64 2]) (by simp [results, Try.results40, go_sem]) rfl ?_
    exact ⟨fun h => absurd h (fun h => Hm.out h.1), fun _ => rfl, H5.out⟩
end Go.Proofs.Ytpnginnjbdedbaa
