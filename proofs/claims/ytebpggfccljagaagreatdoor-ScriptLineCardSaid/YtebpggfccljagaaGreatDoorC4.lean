import Derived.Test.YtebpggfccljagaaGreatDoorC3
import Derived.Lib.ConvBytes
import Derived.BigQuiet
import Derived.Deep.DeepCutAuto
import Derived.Deep.RegionHeld3
/- whole.of. -/
namespace Go.Proofs.YtebpggfccljagaaGreatDoor
open Go.RowKit
open Wh
set_option linter.unusedSimpArgs false

def pv (g : Nat) : Value := .pointer (some ⟨g, 0, none⟩)
theorem pv_one (l : List Nat) : ∀ u ∈ l.map pv, u.oneCell' = true := by
  intro u hu
  obtain ⟨b, _, rfl⟩ := List.mem_map.1 hu
  rfl
theorem infoP : (Tryz.prog.info? 139).map (fun i => (i.zero, i.size, i.bytes)) = some (some (.pointer none), 1, 8) := by kernel_rfl
/-- new pointers -/
def OwnP (w : World) (B : Nat) (v : Value) (l : List Nat) : Prop := w.ownsRow B 139 1 v l.length (l.map pv)
theorem OwnP.form {w : World} {B : Nat} {v : Value} {l : List Nat} (h : OwnP w B v l) : ∃ A c, v = .slice A l.length c ∧ l.length ≤ c := by
  rcases h.2 with ⟨rfl, h0⟩ | ⟨g, cap, cur, rfl, _, _, hc, hm, _⟩
  · exact ⟨none, 0, by rw [h0], by omega⟩
  · exact ⟨_, cap, rfl, hc⟩
theorem OwnP.len {w : World} {B n c : Nat} {A : Option Addr} {l : List Nat} (h : OwnP w B (.slice A n c) l) : n = l.length := by
  obtain ⟨A', c', e, h1⟩ := h.form
  injection e
theorem OwnP.nil (w : World) (B : Nat) : OwnP w B (.slice none 0 0) [] := World.ownsRow_nil w B _ 1
/-- pointers that are read -/
def ReadsP (w : World) (B : Nat) (A : Option Addr) (l : List Nat) : Prop := Reads w B 1 A l.length (l.map pv)
theorem ReadsP.at_ {w : World} {B : Nat} {A : Option Addr} {l : List Nat} (h : ReadsP w B A l) {k : Nat} (hk : k < l.length) : ∃ ad, A = some ad ∧ ad.block < B ∧ w.cell? (ad.add k) = some (.pointer (some ⟨l[k], 0, none⟩)) := by
  obtain ⟨ad, u, e, hb, hu, hc⟩ := Reads.at_ h hk
  refine ⟨ad, e, hb, ?_⟩
  rw [hc]
  rw [List.getElem?_map, List.getElem?_eq_getElem hk] at hu
  exact hu.symm
theorem OwnP.reads {w : World} {B n c : Nat} {A : Option Addr} {l : List Nat} (h : OwnP w B (.slice A n c) l) : ReadsP w w.heap.size A l := by
  obtain rfl := h.len
  exact Reads.of_own h
/-- append(l, p) -/
theorem wpP_push {w : World} {ops : Array Oper} {rest : List Oper} {o : Oper} {a : Act} {Q : Exit → Act → World → Prop} (hgd : o.guard = none) (s x : Operand)
    (ho : o.op = .call { callee := .builtin .append, args := #[s, x], argTypes := #[170, 170] }) (B : Nat) (v : Value) (l : List Nat) (hown : OwnP w B v l) (hs : a.eval s = v)
    {g : Nat} (hx : a.eval x = .slice (some ⟨w.heap.size, 0, none⟩) 1 1) (hlen : l.length ≤ 1000000000) (hbase : B ≤ w.heap.size)
    (h : ∀ A' n' c' w', OwnP w' B (.slice A' n' c') (l ++ [g]) → (∀ w0, Below B w0 w → Below B w0 w') → w.grownBy w' v.ownBlock → wpList Tryz.prog ops Q rest (a.put o.dst (.slice A' n' c')) w') :
    wpList Tryz.prog ops Q (o :: rest) a (w.alloc (.cells #[.pointer (some ⟨g, 0, none⟩)] 139)) := by
  obtain ⟨i0, hi, hz0, hz1, hz2⟩ := info_parts infoP
  have hr : Reads (w.alloc (.cells #[.pointer (some ⟨g, 0, none⟩)] 139)) (w.heap.size + 1) 1 (some ⟨w.heap.size, 0, none⟩) 1 ([g].map pv) := by
    refine ⟨by simp, fun _ => ⟨_, rfl, Nat.lt_succ_self _, fun j u hu => ?_⟩⟩
    have hb := Blk.new w 139 #[.pointer (some ⟨g, 0, none⟩)]
    match j, hu with
    | 0, hu => rw [Addr.add_zero', hb.cell 0]; exact hu
    | j + 1, hu => simp at hu
  refine wpList_append_any _ hgd s x 170 ho B 139 i0 (.pointer none) 1 8 Tryz.underlying170 hi hz0 hz1 hz2 rfl (by decide) v l.length (l.map pv) hs (hown.alloc _) _ _ 1 1 ([g].map pv) hx hr (pv_one _) (by unfold maxLen; omega) (by omega) (by simp; omega) ?_
  intro v' w' h1 h2 h3
  have h4 : OwnP w' B v' (l ++ [g]) := by
    unfold OwnP
    rw [List.length_append, List.map_append]
    exact h1
  obtain ⟨A', c', rfl, _⟩ := h4.form
  have h5 : w.grownBy w' v.ownBlock := ⟨h2.os, h2.tape, h2.output, Nat.le_trans (by simp) h2.size, fun i hi hne => (h2.block i (by simp; omega) hne).trans (Below.heap_alloc w _ i hi)⟩
  exact h A' _ c' w' h4 (fun w0 hb => (hb.alloc hbase _).grown h2 (by simp; omega) (fun k hk => (World.ownsRow.lt hown k hk).1)) h5

/-- the number of a sign and bytes -/
def num (a : Bool × ByteArray) : Int := sgn a.1 (bval a.2.data.toList)
def wcs (a : Bool × ByteArray) : List Value := [.bool a.1, .string a.2]
/-- whole numbers that are read -/
def ReadsWh (w : World) (B : Nat) (A : Option Addr) (l : List (Bool × ByteArray)) : Prop := Reads w B 2 A l.length (l.flatMap wcs)
theorem flat_get : ∀ (l : List (Bool × ByteArray)) (k : Nat) (h : k < l.length), (l.flatMap wcs)[2 * k]? = some (.bool l[k].1) ∧ (l.flatMap wcs)[2 * k + 1]? = some (.string l[k].2)
  | x :: r, 0, _ => ⟨rfl, rfl⟩
  | x :: r, k + 1, h => by
    have := flat_get r k (by simpa using h)
    rw [show 2 * (k + 1) = 2 * k + 1 + 1 by omega]
    exact this
theorem ReadsWh.at_ {w : World} {B : Nat} {A : Option Addr} {l : List (Bool × ByteArray)} (h : ReadsWh w B A l) {k : Nat} (hk : k < l.length) : ∃ ad, A = some ad ∧ ad.block < B ∧ w.cell? (ad.add (k * 2)) = some (.bool l[k].1) ∧ w.cell? ⟨(ad.add (k * 2)).block, (ad.add (k * 2)).off + 1, none⟩ = some (.string l[k].2) := by
  obtain ⟨ad, e, hb, hc⟩ := h.2 (by omega)
  obtain ⟨h1, h2⟩ := flat_get l k hk
  refine ⟨ad, e, hb, ?_, ?_⟩
  · rw [Nat.mul_comm]; exact hc _ _ h1
  · have := hc _ _ h2
    rw [Nat.mul_comm, ← add_of_add, add_pos (by decide)] at this
    exact this
/-- numbers in their blocks, each a block of its own -/
def Ints (w : World) : List Nat → List Int → Prop
  | [], [] => True
  | g :: gs, z :: zs => IntB w g z ∧ g ∉ gs ∧ Ints w gs zs
  | _, _ => False

theorem Ints.keep {w w' : World} : ∀ {gs : List Nat} {zs : List Int}, (∀ g ∈ gs, ∀ z, IntB w g z → IntB w' g z) → Ints w gs zs → Ints w' gs zs
  | [], [], _, _ => trivial
  | g :: gs, z :: zs, h, ⟨h1, h2, h3⟩ => ⟨h g (by simp) z h1, h2, Ints.keep (fun g' hg' => h g' (by simp [hg'])) h3⟩
  | [], _ :: _, _, h => h.elim
  | _ :: _, [], _, h => h.elim
theorem Ints.snoc {w : World} {g : Nat} {z : Int} : ∀ {gs : List Nat} {zs : List Int}, Ints w gs zs → IntB w g z → g ∉ gs → Ints w (gs ++ [g]) (zs ++ [z])
  | [], [], _, h, _ => ⟨h, by simp, trivial⟩
  | g' :: gs, z' :: zs, ⟨h1, h2, h3⟩, h, hn => ⟨h1, by
      show ¬ g' ∈ gs ++ [g]
      rw [List.mem_append]
      rintro (h5 | h5)
      · exact h2 h5
      · simp only [List.mem_singleton] at h5
        exact hn (by simp [h5]), Ints.snoc h3 h (fun h5 => hn (by simp [h5]))⟩
  | [], _ :: _, h, _, _ => h.elim
  | _ :: _, [], h, _, _ => h.elim
theorem IntB.other {w w' : World} {g : Nat} {z : Int} {row : Option Nat} (h : IntB w g z) (hg : w.grownBy w' row) (hr : ∀ r, row = some r → ∃ cs t fz, w.heap[r]? = some (.cells cs t fz) ∧ t ≠ 163 ∧ t ≠ 151) : IntB w' g z := by
  obtain ⟨s, A, n, c, hb, h1, h2, h3, hrd⟩ := h
  refine ⟨s, A, n, c, hb.grown hg ?_, h1, h2, h3, (hrd.other hg (Nat.le_refl _) fun r e => ?_).more hg.size⟩
  · intro e
    obtain ⟨cs, t, fz, hh, _, hne⟩ := hr g e.symm
    unfold Blk at hb
    rw [hb] at hh
    injection hh with hh
    injection hh with _ h5
    exact hne h5.symm
  · obtain ⟨cs, t, fz, hh, hne, _⟩ := hr r e
    exact ⟨cs, t, fz, hh, hne⟩
theorem OwnP.row {w : World} {B : Nat} {v : Value} {l : List Nat} (h : OwnP w B v l) : ∀ r, v.ownBlock = some r → ∃ cs t fz, w.heap[r]? = some (.cells cs t fz) ∧ t ≠ 163 ∧ t ≠ 151 := by
  intro r hr
  rcases h.2 with ⟨rfl, _⟩ | ⟨g, cap, cur, rfl, _, hh, _⟩
  · cases hr
  · injection hr with hr
    simp only at hr
    subst hr
    exact ⟨_, _, _, hh, by decide, by decide⟩
theorem OwnP.kept {w w' : World} {B : Nat} {v : Value} {l : List Nat} (h : OwnP w B v l) (hb : Below w.heap.size w w') : OwnP w' B v l := by
  refine ⟨h.1, ?_⟩
  rcases h.2 with h' | ⟨g, cap, cur, hv, hg, hh, r⟩
  · exact .inl h'
  · exact .inr ⟨g, cap, cur, hv, hg, (hb.block g (Array.getElem?_eq_some_iff.1 hh).1).trans hh, r⟩
theorem len_mag {l : List UInt8} (h : l.length ≤ 16384) : (wds (bval l)).length ≤ 5000 := by
  have h1 := bval_lt l
  refine Nat.le_trans (len_wds (k := (l.length + 3) / 4) ?_) (by omega)
  rw [show (4294967296 : Nat) = 256 ^ 4 by decide, ← Nat.pow_mul]
  exact Nat.lt_of_lt_of_le h1 (Nat.pow_le_pow_right (by decide) (by omega))
theorem Ints.lt {w : World} : ∀ {gs : List Nat} {zs : List Int}, Ints w gs zs → ∀ g ∈ gs, g < w.heap.size
  | [], [], _, g, hg => by cases hg
  | g' :: gs, z :: zs, ⟨h1, _, h3⟩, g, hg => by
    rcases List.mem_cons.1 hg with rfl | hg
    · exact h1.lt
    · exact Ints.lt h3 g hg
  | [], _ :: _, h, _, _ => h.elim
  | _ :: _, [], h, _, _ => h.elim
theorem bytes_below (w : World) (s : ByteArray) : Below w.heap.size w (Lib.bytesWorld w 5 s) := ⟨rfl, rfl, rfl, by rw [Lib.bytesWorld_size]; omega, fun i hi => Lib.bytesWorld_at_old w 5 s i hi⟩
theorem bytes_reads (w : World) (s : ByteArray) : ReadsB (Lib.bytesWorld w 5 s) (Lib.bytesWorld w 5 s).heap.size (some ⟨w.heap.size, 0, none⟩) s.data.toList := by
  have hl : s.data.toList.length = s.size := Array.length_toList
  refine ⟨by simp, fun _ => ⟨_, rfl, by rw [Lib.bytesWorld_size]; exact Nat.lt_succ_self _, fun j u hu => ?_⟩⟩
  have hj : j < s.size := by
    rcases Nat.lt_or_ge j s.size with h | h
    · exact h
    · rw [List.getElem?_map, List.getElem?_eq_none (by omega)] at hu; cases hu
  rw [Addr.add_lit, Nat.zero_add, Lib.bytesWorld_cell w 5 s j hj, ← hu, List.getElem?_map, List.getD_eq_getElem?_getD, List.getElem?_eq_getElem (by omega)]
  rfl
/-- all may be: their blocks -/
def OfOk (w : World) (zs : List Int) (e : Ending) (w' : World) : Prop := ∃ A n c gs, e = .returned (.tuple #[.slice A n c, .bool true]) ∧ Hid (n = gs.length ∧ gs.length = zs.length) ∧ ReadsP w' w'.heap.size A gs ∧ Ints w' gs zs ∧ Below w.heap.size w w' ∧ (∀ g ∈ gs, w.heap.size ≤ g)
/-- one may not be -/
def OfNo (w : World) (e : Ending) (w' : World) : Prop := ∃ A n c, e = .returned (.tuple #[.slice A n c, .bool false]) ∧ Below w.heap.size w w'
theorem num_take {l : List (Bool × ByteArray)} {i : Nat} (h : i < l.length) : (l.take (i + 1)).map num = (l.take i).map num ++ [num l[i]] := by
  rw [List.take_succ_eq_append_getElem h, List.map_append]; rfl
def AllMay (l : List (Bool × ByteArray)) : Prop := ∀ a ∈ l, MayL a.1 a.2.data.toList
def Ofs (w : World) (l : List (Bool × ByteArray)) (e : Ending) (w' : World) : Prop := (AllMay l → OfOk w (l.map num) e w') ∧ (¬ AllMay l → OfNo w e w')

set_option maxRecDepth 100000 in
set_option maxHeartbeats 8000000 in
theorem ofs_any {w : World} {B n c : Nat} {A : Option Addr} {l : List (Bool × ByteArray)} (hr : ReadsWh w B A l) (hB : B ≤ w.heap.size) (hn : n = l.length) (hnl : n ≤ 100000) :
    Calls Tryz.prog 120 #[.slice A n c] w (Ofs w l) := by
  have Hn := Lib.hid hn
  have kc := fun (W : World) (s : ByteArray) => Lib.run_convert_string_bytes (P := Tryz.prog) W 9 97 5 s Tryz.underlying9 Tryz.underlying97 Tryz.underlying5
  clear hn
  go_enter Tryz.func120, Tryz.ntmps120
  go_wp2_with fail
  go_loopg [4, 10] n (fun k ov iv wr => ∃ (i : Nat) (A' : Option Addr) (n' c' : Nat) (gs : List Nat), ov = .slice A' n' c' ∧ iv = .int .i64 (i : Int) ∧ k = n - i ∧ i ≤ n ∧ OwnP wr w.heap.size (.slice A' n' c') gs ∧ Below w.heap.size w wr ∧ Ints wr gs ((l.take i).map num) ∧
    Hid (gs.length = i ∧ (∀ g ∈ gs, w.heap.size ≤ g) ∧ AllMay (l.take i)))
  case atStart => exact ⟨0, none, 0, 0, [], rfl, rfl, rfl, by omega, OwnP.nil _ _, Below.refl _ _, trivial, rfl, fun g hg => (by cases hg), fun a ha => (by simp at ha)⟩
  case round =>
    obtain ⟨i, A', n', c', gs, rfl, rfl, hk, hi, hown, hbel, hints, hgs⟩ := hrel
    have Hk := Lib.hid hk
    clear hk
    by_cases hin : i < n
    · have hil : i < l.length := by rw [← Hn.out]; exact hin
      obtain ⟨ad, rfl, hb1, c0, c1⟩ := hr.at_ hil
      have c0' := (hbel.cell (p := ad.add (i * 2)) (by rw [block_of_add]; omega)).trans c0
      have c1' := (hbel.cell (p := ⟨(ad.add (i * 2)).block, (ad.add (i * 2)).off + 1, none⟩) (by show (ad.add (i * 2)).block < _; rw [block_of_add]; omega)).trans c1
      have hii : (i : Int) < (n : Int) := by omega
      have Hnt := Lib.hid (num_take hil)
      have hmem : l[i] ∈ l := List.getElem_mem hil
      have htk : l.take (i + 1) = l.take i ++ [l[i]] := List.take_succ_eq_append_getElem hil
      obtain ⟨a, ha⟩ : ∃ a, a = l[i] := ⟨_, rfl⟩
      rw [← ha] at c0 c1 c0' c1' Hnt hmem htk
      obtain ⟨ng, s⟩ := a
      have Hm := Lib.hid (And.intro hmem htk)
      clear c0 c1 hr ha hmem htk
      by_cases hmay : MayL ng s.data.toList
      · have hsz : s.size ≤ 16384 := by have := hmay.1; rw [show s.data.toList.length = s.size from Array.length_toList] at this; exact this
        have HC := Lib.hid (check_ok (w := wr.alloc (.cells #[.bool ng, .string s] 34)) hmay)
        have Hmay := Lib.hid hmay
        clear hmay
        go_wp2_with fail
        refine HC.out.mono ?_
        rintro e w2 ⟨rfl, hb2⟩
        have hbk := (Blk.new wr 34 #[.bool ng, .string s]).below hb2 (by simp)
        have d0 : w2.cell? ⟨wr.heap.size, 0, none⟩ = some (.bool ng) := hbk.cell 0
        have d1 : w2.cell? ⟨wr.heap.size, 1, none⟩ = some (.string s) := hbk.cell 1
        have hb2' : Below wr.heap.size wr w2 := ((Below.refl _ _).alloc (Nat.le_refl _) _).trans (hb2.mono (by simp))
        have hgr : wr.heap.size < w2.heap.size := hbk.lt
        clear hbk hb2
        go_wp2_with fail
        have hrd := bytes_reads (w2.alloc (.cells #[.bool false, .slice none 0 0] 151)) s
        rw [World.size_alloc] at hrd
        have hbb := bytes_below (w2.alloc (.cells #[.bool false, .slice none 0 0] 151)) s
        have hsl : s.data.toList.length = s.size := Array.length_toList
        have HS := Lib.hid (setbytes_any (c := grownCap (w2.alloc (.cells #[.bool false, .slice none 0 0] 151)) s.size 0 5) ((IntB.zero w2).slot.below hbb) hrd (Nat.le_refl _) hsl.symm (by omega))
        have hlen := len_mag Hmay.out.1
        have hlt := hints.lt
        clear hrd
        go_wp2_with fail
        refine HS.out.mono ?_
        rintro e w3 ⟨rfl, hi3, hg3⟩
        have hb23 : Below w2.heap.size w2 w3 := ((new_below w2 _).trans (hbb.mono (by simp))).grown hg3 (by rw [Lib.bytesWorld_size]; simp; omega) (fun k hk => by injection hk with hk; omega)
        have d0' := (hb23.cell (p := ⟨wr.heap.size, 0, none⟩) hgr).trans d0
        have hbr3 := hb2'.trans (hb23.mono hb2'.size)
        clear hbb HS hg3 hsl d0 d1
        cases ng
        · have d0 := trivial
          have d1 := trivial
          have hnum : (bval s.data.toList : Int) = num (false, s) := rfl
          rw [hnum] at hi3
          have Hi3 := Lib.hid hi3
          have hbw3 := hbel.trans (hbr3.mono hbel.size)
          have hown3 := hown.kept hbr3
          have hints3 := hints.keep (w' := w3) (fun g hg z hz => hz.below hbr3)
          have Hk3 := Lib.hid (And.intro hown3 (And.intro hints3 hbw3))
          have hle3 : w.heap.size ≤ w3.heap.size := hbw3.size
          have hgl : gs.length ≤ 1000000000 := by have := hgs.out.1; omega
          have hown4 := hown3
          clear hown hints hbw3 hown3 hints3 hi3 d0 d1
          go_wp2_with (at_builtin; refine wpP_push rfl (.tmp 32) (.tmp 34) rfl w.heap.size _ gs hown4 rfl (g := w2.heap.size) rfl hgl hle3 ?_; intro A7 n7 c7 w7 ho7 hkeep hg7; have H7 := Lib.hid (And.intro ho7 (And.intro (hkeep w Hk3.out.2.2) hg7)); clear ho7 hkeep hg7)
          go_roundg (n - (i + 1))
          case measure => have := Hk.out; omega
          case rel =>
            refine ⟨i + 1, A7, n7, c7, gs ++ [w2.heap.size], rfl, rfl, rfl, by omega, H7.out.1, H7.out.2.1, ?_, ?_⟩
            · rw [Hnt.out]
              refine (Hk3.out.2.1.snoc Hi3.out ?_).keep fun g _ z hz => hz.other H7.out.2.2 Hk3.out.1.row
              intro hin2
              have := hlt _ hin2
              omega
            · refine ⟨by rw [List.length_append, hgs.out.1]; rfl, fun g hg => ?_, ?_⟩
              · rcases List.mem_append.1 hg with h | h
                · exact hgs.out.2.1 g h
                · simp only [List.mem_singleton] at h
                  have := hbel.size
                  omega
              · intro a hin2
                rw [Hm.out.2] at hin2
                rcases List.mem_append.1 hin2 with h | h
                · exact hgs.out.2.2 a h
                · simp only [List.mem_singleton] at h
                  rw [h]
                  exact Hmay.out
        · have HN := Lib.hid (neg_any hi3.slot hi3 (by rw [Int.natAbs_natCast]; omega))
          have hsl3 := hi3.slot
          go_wp2_with fail
          refine HN.out.mono ?_
          rintro e w4 ⟨rfl, hi4, hg4⟩
          have hbr4 := up_row hbr3 hg4 hbr3.size (by omega)
          have d0 := trivial
          have d1 := trivial
          have hnum : -(bval s.data.toList : Int) = num (true, s) := rfl
          rw [hnum] at hi4
          clear hbr3 hi3 hsl3 HN hg4
          have Hi4 := Lib.hid hi4
          have hbw4 := hbel.trans (hbr4.mono hbel.size)
          have hown4 := hown.kept hbr4
          have hints4 := hints.keep (w' := w4) (fun g hg z hz => hz.below hbr4)
          have Hk4 := Lib.hid (And.intro hown4 (And.intro hints4 hbw4))
          have hle4 : w.heap.size ≤ w4.heap.size := hbw4.size
          have hgl : gs.length ≤ 1000000000 := by have := hgs.out.1; omega
          have hown4 := hown4
          clear hown hints hbw4 hown4 hints4 hi4 d0 d1
          go_wp2_with (at_builtin; refine wpP_push rfl (.tmp 32) (.tmp 34) rfl w.heap.size _ gs hown4 rfl (g := w2.heap.size) rfl hgl hle4 ?_; intro A7 n7 c7 w7 ho7 hkeep hg7; have H7 := Lib.hid (And.intro ho7 (And.intro (hkeep w Hk4.out.2.2) hg7)); clear ho7 hkeep hg7)
          go_roundg (n - (i + 1))
          case measure => have := Hk.out; omega
          case rel =>
            refine ⟨i + 1, A7, n7, c7, gs ++ [w2.heap.size], rfl, rfl, rfl, by omega, H7.out.1, H7.out.2.1, ?_, ?_⟩
            · rw [Hnt.out]
              refine (Hk4.out.2.1.snoc Hi4.out ?_).keep fun g _ z hz => hz.other H7.out.2.2 Hk4.out.1.row
              intro hin2
              have := hlt _ hin2
              omega
            · refine ⟨by rw [List.length_append, hgs.out.1]; rfl, fun g hg => ?_, ?_⟩
              · rcases List.mem_append.1 hg with h | h
                · exact hgs.out.2.1 g h
                · simp only [List.mem_singleton] at h
                  have := hbel.size
                  omega
              · intro a hin2
                rw [Hm.out.2] at hin2
                rcases List.mem_append.1 hin2 with h | h
                · exact hgs.out.2.2 a h
                · simp only [List.mem_singleton] at h
                  rw [h]
                  exact Hmay.out
      · have HC := Lib.hid (check_no (w := wr.alloc (.cells #[.bool ng, .string s] 34)) hmay)
        have hno : ¬ AllMay l := fun h => hmay (h _ Hm.out.1)
        have Hno := Lib.hid hno
        clear hmay hno
        go_wp2_with fail
        refine HC.out.mono ?_
        rintro e w2 ⟨rfl, hb2⟩
        have hb2' : Below wr.heap.size wr w2 := ((Below.refl _ _).alloc (Nat.le_refl _) _).trans (hb2.mono (by simp))
        go_wp2_with fail
        go_ret2
        exact ⟨fun h => absurd h Hno.out, fun _ => ⟨_, _, _, rfl, hbel.trans (hb2'.mono hbel.size)⟩⟩
    · have hi' : i = n := by omega
      have hii : (n : Int) ≤ (i : Int) := by omega
      have htl : l.take i = l := List.take_of_length_le (by rw [← Hn.out]; omega)
      rw [htl] at hints hgs
      have Hh := Lib.hid (And.intro hown (And.intro hints (And.intro hbel hi')))
      clear htl hi' hown hints hr
      go_wp2_with fail
      go_ret2
      refine ⟨fun _ => ⟨_, _, _, gs, rfl, ⟨Hh.out.1.len, by rw [hgs.out.1, List.length_map, ← Hn.out]; exact Hh.out.2.2.2⟩, Hh.out.1.reads, Hh.out.2.1, Hh.out.2.2.1, hgs.out.2.1⟩, fun h => absurd hgs.out.2.2 h⟩
end Go.Proofs.YtebpggfccljagaaGreatDoor

/- whole.told, whole.Of. -/
namespace Go.Proofs.YtebpggfccljagaaGreatDoor
open Go.RowKit
open Wh
set_option linter.unusedSimpArgs false

/-- a number as a value -/
def enc (z : Int) : Value := .agg #[.bool (decide (z < 0)), .string ⟨(bys z.natAbs).toArray⟩]
def none_ : Value := .agg #[.bool false, .string ⟨#[]⟩]
def fits (z : Int) : Prop := bl z.natAbs ≤ 131072
/-- what is told of a number -/
def Tells (w : World) (z : Int) (e : Ending) (w' : World) : Prop := (fits z → e = .returned (.tuple #[enc z, .int .i64 0])) ∧ (¬ fits z → e = .returned (.tuple #[none_, .int .i64 4])) ∧ Below w.heap.size w w'
theorem sg_neg (z : Int) : decide (sg z < 0) = decide (z < 0) := by
  unfold sg
  by_cases h0 : z = 0
  · subst h0; rfl
  · by_cases h1 : z < 0
    · simp [h0, h1]
    · simp [h0, h1]
set_option maxRecDepth 100000 in
set_option maxHeartbeats 4000000 in
theorem told_any {w : World} {gx : Nat} {z : Int} (hx : IntB w gx z) (hxl : (wds z.natAbs).length ≤ 100000000) :
    Calls Tryz.prog 106 #[.pointer (some ⟨gx, 0, none⟩)] w (Tells w z) := by
  have hb0 := new_below w (.cells #[.bool false, .string ⟨#[]⟩] 34)
  have hx1 := hx.below hb0
  have HB := Lib.hid (bitlen_any hx1 (by omega))
  unfold Bitted at HB
  obtain ⟨b, hb⟩ : ∃ b, b = bl z.natAbs := ⟨_, rfl⟩
  rw [← hb] at HB
  have Hb := Lib.hid hb
  have Hx := Lib.hid (And.intro hx1 (And.intro hxl hb0))
  by_cases hf : b ≤ 131072
  · have hfi : (b : Int) ≤ 131072 := by omega
    have Hf := Lib.hid (show fits z by unfold fits; rw [← hb]; exact hf)
    clear hb hx hx1 hxl hf hb0
    go_enter Tryz.func106, Tryz.ntmps106
    go_wp2_with fail
    refine HB.out.mono ?_
    rintro e w2 ⟨q, rfl, rfl⟩
    have HS := Lib.hid (sign_any (Hx.out.1.drewN q))
    obtain ⟨sv, hsv⟩ : ∃ sv, sv = sg z := ⟨_, rfl⟩
    rw [← hsv] at HS
    have Hsv := Lib.hid hsv
    clear hsv
    go_wp2_with fail
    refine HS.out.mono ?_
    rintro e w3 ⟨rfl, rfl⟩
    have HY := Lib.hid (bytes_any (m := z.natAbs) z rfl (Hx.out.1.drewN q) (by have := Hx.out.2.1; omega))
    go_wp2_with fail
    refine HY.out.mono ?_
    rintro e w4 ⟨A, n, rfl, hn, hr, hb4⟩
    have hstr := run_str (c := n) hn.out hr
    have hb24 : Below (w.alloc (.cells #[.bool false, .string ⟨#[]⟩] 34)).heap.size (w.alloc (.cells #[.bool false, .string ⟨#[]⟩] 34)) w4 := undrewN hb4
    have hbk := (Blk.new w 34 #[.bool false, .string ⟨#[]⟩]).below hb24 (by simp)
    have d0 := hbk.cell 0
    have d1 := hbk.cell 1
    have f0 := hbk.frozen 0
    have f1 := hbk.frozen 1
    have Hb24 := Lib.hid (And.intro hbk hb24)
    clear hbk hb24 hb4 hr
    go_wp2_with fail
    refine bodyPost_ret (v := .tuple #[.agg #[.bool (decide (sv < 0)), .string ⟨(bys z.natAbs).toArray⟩], .int .i64 0]) (by simp [results, Tryz.results106, go_sem, d0, d1]) rfl ?_
    refine ⟨fun _ => ?_, fun h => absurd Hf.out h, ?_⟩
    · unfold enc
      rw [Hsv.out, sg_neg]
    · exact ((Hx.out.2.2.trans (Hb24.out.2.mono (by simp))).setCell (Nat.le_refl _) _).setCell (Nat.le_refl _) _
  · have hfi : (131072 : Int) < (b : Int) := by omega
    have Hf := Lib.hid (show ¬ fits z by unfold fits; rw [← hb]; exact hf)
    have hbk := Blk.new w 34 #[.bool false, .string ⟨#[]⟩]
    clear hb hx hx1 hxl hf
    go_enter Tryz.func106, Tryz.ntmps106
    go_wp2_with fail
    refine HB.out.mono ?_
    rintro e w2 ⟨q, rfl, rfl⟩
    have d0 := (hbk.drewN q).cell 0
    have d1 := (hbk.drewN q).cell 1
    go_wp2_with fail
    refine bodyPost_ret (v := .tuple #[.agg #[.bool false, .string ⟨#[]⟩], .int .i64 4]) (by simp [results, Tryz.results106, go_sem, d0, d1]) rfl ?_
    refine ⟨fun h => absurd h Hf.out, fun _ => rfl, ?_⟩
    exact ((below_drewN hb0 q).setCell (Nat.le_refl _) _).setCell (Nat.le_refl _) _

theorem bl_small {m : Nat} (h : m ≤ 18446744073709551615) : bl m ≤ 131072 := Nat.le_trans ((bl_lt (k := 64)).2 (by omega)) (by omega)
end Go.Proofs.YtebpggfccljagaaGreatDoor

/- whole.two, Add, Sub, Mul (printed by gen_two.py). -/
namespace Go.Proofs.YtebpggfccljagaaGreatDoor
open Go.RowKit
open Wh
set_option linter.unusedSimpArgs false

theorem blk_pair {w : World} (a b : Bool × ByteArray) : ReadsWh (w.alloc (.cells #[.bool a.1, .string a.2, .bool b.1, .string b.2] 34)) (w.heap.size + 1) (some ⟨w.heap.size, 0, none⟩) [a, b] := by
  refine ⟨rfl, fun _ => ⟨_, rfl, Nat.lt_succ_self _, fun j u hu => ?_⟩⟩
  rw [Addr.add_lit, Nat.zero_add, (Blk.new w 34 #[.bool a.1, .string a.2, .bool b.1, .string b.2]).cell j]
  rw [← hu]
  match j with
  | 0 => rfl
  | 1 => rfl
  | 2 => rfl
  | 3 => rfl
  | _ + 4 => rfl
/-- what is answered: a number, or it is too great, or it is refused -/
def Ans (w : World) (ok : Prop) (z : Int) (e : Ending) (w' : World) : Prop := (ok → fits z → e = .returned (.tuple #[enc z, .int .i64 0])) ∧ (ok → ¬ fits z → e = .returned (.tuple #[none_, .int .i64 4])) ∧ (¬ ok → e = .returned (.tuple #[none_, .int .i64 2])) ∧ Below w.heap.size w w'
def May2 (a b : Bool × ByteArray) : Prop := MayL a.1 a.2.data.toList ∧ MayL b.1 b.2.data.toList
theorem may2_all {a b : Bool × ByteArray} : AllMay [a, b] ↔ May2 a b := by
  unfold AllMay May2
  simp
theorem ints_two {w : World} {gs : List Nat} {x y : Int} (h : Ints w gs [x, y]) : ∃ g1 g2, gs = [g1, g2] ∧ IntB w g1 x ∧ IntB w g2 y ∧ g1 ≠ g2 := by
  match gs, h with
  | [g1, g2], ⟨h1, h2, h3, _, _⟩ => exact ⟨g1, g2, rfl, h1, h3, by simpa using h2⟩
  | [], h => exact h.elim
  | [_], ⟨_, _, h⟩ => exact h.elim
  | _ :: _ :: _ :: _, ⟨_, _, _, _, h⟩ => exact h.elim
theorem len_num {a : Bool × ByteArray} (h : MayL a.1 a.2.data.toList) : (wds (num a).natAbs).length ≤ 5000 := by
  unfold num
  rw [sgn_abs]
  exact len_mag h.1
/-- what an operation of numbers does -/
def Does (F : Nat) (op : Int → Int → Int) : Prop := ∀ (w : World) (g gx gy : Nat) (x y : Int), IntS w g → IntB w gx x → IntB w gy y → (wds x.natAbs).length ≤ 5000 → (wds y.natAbs).length ≤ 5000 →
  Calls Tryz.prog F #[.pointer (some ⟨g, 0, none⟩), .pointer (some ⟨gx, 0, none⟩), .pointer (some ⟨gy, 0, none⟩)] w (Puts w g (op x y))

theorem len_sum {a b : Nat} (ha : (wds a).length ≤ 5000) (hb : (wds b).length ≤ 5000) : (wds (a + b)).length ≤ 100000 := by
  rcases Nat.le_total a b with h | h
  · exact Nat.le_trans (len_mono (show a + b ≤ 2 * b by omega)) (Nat.le_trans (len_mul (p := 1) (q := 5000) (len_small (by decide)) hb) (by omega))
  · exact Nat.le_trans (len_mono (show a + b ≤ 2 * a by omega)) (Nat.le_trans (len_mul (p := 1) (q := 5000) (len_small (by decide)) ha) (by omega))
theorem len_add (x y : Int) (hx : (wds x.natAbs).length ≤ 5000) (hy : (wds y.natAbs).length ≤ 5000) : (wds (x + y).natAbs).length ≤ 100000 := Nat.le_trans (len_mono (Int.natAbs_add_le x y)) (len_sum hx hy)
theorem len_sub (x y : Int) (hx : (wds x.natAbs).length ≤ 5000) (hy : (wds y.natAbs).length ≤ 5000) : (wds (x - y).natAbs).length ≤ 100000 := Nat.le_trans (len_mono (Int.natAbs_sub_le x y)) (len_sum hx hy)
theorem len_mulI (x y : Int) (hx : (wds x.natAbs).length ≤ 5000) (hy : (wds y.natAbs).length ≤ 5000) : (wds (x * y).natAbs).length ≤ 100000 := by rw [Int.natAbs_mul]; exact Nat.le_trans (len_mul hx hy) (by omega)

end Go.Proofs.YtebpggfccljagaaGreatDoor

/- whole: what a number is (printed by gen_ask.py). -/
namespace Go.Proofs.YtebpggfccljagaaGreatDoor
open Go.RowKit
open Wh
set_option linter.unusedSimpArgs false

theorem blk_one {w : World} (a : Bool × ByteArray) : ReadsWh (w.alloc (.cells #[.bool a.1, .string a.2] 34)) (w.heap.size + 1) (some ⟨w.heap.size, 0, none⟩) [a] := by
  refine ⟨rfl, fun _ => ⟨_, rfl, Nat.lt_succ_self _, fun j u hu => ?_⟩⟩
  rw [Addr.add_lit, Nat.zero_add, (Blk.new w 34 #[.bool a.1, .string a.2]).cell j]
  rw [← hu]
  match j with
  | 0 => rfl
  | 1 => rfl
  | _ + 2 => rfl
/-- one number, as the library has it -/
def One (w : World) (na : Bool) (sa : ByteArray) (e : Ending) (w' : World) : Prop :=
  (MayL na sa.data.toList → ∃ ad c g, e = .returned (.tuple #[.slice (some ad) 1 c, .bool true]) ∧ ad.block < w'.heap.size ∧ w'.cell? ad = some (.pointer (some ⟨g, 0, none⟩)) ∧ IntB w' g (num (na, sa)) ∧ w.heap.size ≤ g) ∧
  (¬ MayL na sa.data.toList → ∃ A n c, e = .returned (.tuple #[.slice A n c, .bool false])) ∧ Below w.heap.size w w'
theorem of_one {w : World} {na : Bool} {sa : ByteArray} :
    Calls Tryz.prog 120 #[.slice (some ⟨w.heap.size, 0, none⟩) 1 1] (w.alloc (.cells #[.bool na, .string sa] 34)) (One w na sa) := by
  refine (ofs_any (c := 1) (n := 1) (blk_one (w := w) (na, sa)) (by simp) rfl (by omega)).mono ?_
  rintro e w5 ⟨h1, h2⟩
  have hb0 := new_below w (.cells #[.bool na, .string sa] 34)
  have hall : AllMay [(na, sa)] ↔ MayL na sa.data.toList := by unfold AllMay; simp
  by_cases hm : MayL na sa.data.toList
  · obtain ⟨A5, n5, c5, gs, rfl, hn5, hr5, hi5, hb5, hge⟩ := h1 (hall.2 hm)
    match gs, hi5, hn5, hr5, hge with
    | [g], ⟨hi, _⟩, hn5, hr5, hge =>
      obtain ⟨ad, rfl, hadb, p0⟩ := hr5.at_ (k := 0) (by simp)
      rw [Addr.add_zero'] at p0
      obtain rfl : n5 = 1 := hn5.out.1
      have h5 := hge g (List.mem_singleton.2 rfl)
      rw [World.size_alloc] at h5
      exact ⟨fun _ => ⟨ad, c5, g, rfl, hadb, p0, hi, by omega⟩, fun h => absurd hm h, hb0.trans (hb5.mono (by simp))⟩
    | [], h, _, _, _ => exact h.elim
    | _ :: _ :: _, ⟨_, _, h⟩, _, _, _ => exact h.elim
  · obtain ⟨A5, n5, c5, rfl, hb5⟩ := h2 (fun h => hm (hall.1 h))
    exact ⟨fun h => absurd h hm, fun _ => ⟨_, _, _, rfl⟩, hb0.trans (hb5.mono (by simp))⟩
/-- two numbers, as the library has them -/
def Pair (w : World) (a b : Bool × ByteArray) (e : Ending) (w' : World) : Prop :=
  (May2 a b → ∃ ad c g1 g2, e = .returned (.tuple #[.slice (some ad) 2 c, .bool true]) ∧ ad.block < w'.heap.size ∧ w'.cell? ad = some (.pointer (some ⟨g1, 0, none⟩)) ∧ w'.cell? ⟨ad.block, ad.off + 1, none⟩ = some (.pointer (some ⟨g2, 0, none⟩)) ∧ IntB w' g1 (num a) ∧ IntB w' g2 (num b) ∧ w.heap.size ≤ g1 ∧ w.heap.size ≤ g2 ∧ g1 ≠ g2) ∧
  (¬ May2 a b → ∃ A n c, e = .returned (.tuple #[.slice A n c, .bool false])) ∧ Below w.heap.size w w'
theorem of_pair {w : World} {na nb : Bool} {sa sb : ByteArray} :
    Calls Tryz.prog 120 #[.slice (some ⟨w.heap.size, 0, none⟩) 2 2] (w.alloc (.cells #[.bool na, .string sa, .bool nb, .string sb] 34)) (Pair w (na, sa) (nb, sb)) := by
  refine (ofs_any (c := 2) (n := 2) (blk_pair (w := w) (na, sa) (nb, sb)) (by simp) rfl (by omega)).mono ?_
  rintro e w5 ⟨h1, h2⟩
  have hb0 := new_below w (.cells #[.bool na, .string sa, .bool nb, .string sb] 34)
  by_cases hm : May2 (na, sa) (nb, sb)
  · obtain ⟨A5, n5, c5, gs, rfl, hn5, hr5, hi5, hb5, hge⟩ := h1 (may2_all.2 hm)
    obtain ⟨g1, g2, rfl, hx, hy, hne⟩ := ints_two hi5
    obtain ⟨ad, rfl, hadb, p0⟩ := hr5.at_ (k := 0) (by simp)
    obtain ⟨ad', e', _, p1⟩ := hr5.at_ (k := 1) (by simp)
    injection e' with e'
    subst e'
    rw [Addr.add_zero'] at p0
    rw [add_pos (by decide)] at p1
    obtain rfl : n5 = 2 := hn5.out.1
    have h5 := hge g1 (by simp)
    have h6 := hge g2 (by simp)
    rw [World.size_alloc] at h5 h6
    exact ⟨fun _ => ⟨ad, c5, g1, g2, rfl, hadb, p0, p1, hx, hy, by omega, by omega, hne⟩, fun h => absurd hm h, hb0.trans (hb5.mono (by simp))⟩
  · obtain ⟨A5, n5, c5, rfl, hb5⟩ := h2 (fun h => hm (may2_all.1 h))
    exact ⟨fun h => absurd h hm, fun _ => ⟨_, _, _, rfl⟩, hb0.trans (hb5.mono (by simp))⟩
theorem bval_pos : ∀ {l : List UInt8}, Formed l → l ≠ [] → 0 < bval l
  | [], _, h => absurd rfl h
  | b :: r, h, _ => by
    rw [bval_cons]
    have h1 : b ≠ 0 := h b rfl
    have h2 : 0 < b.toNat := by
      rcases Nat.eq_zero_or_pos b.toNat with h0 | h0
      · exact absurd (UInt8.toNat_inj.1 h0) h1
      · exact h0
    exact Nat.lt_of_lt_of_le (Nat.mul_pos h2 (Nat.pow_pos (by decide))) (Nat.le_add_right _ _)
theorem ptr_ne {w : World} {ad : Addr} {g : Nat} {z : Int} {q : Option Addr} (hi : IntB w g z) (p : w.cell? ad = some (.pointer q)) : ad.block ≠ g := by
  intro h
  have hs := World.cell?_spot p
  obtain ⟨s, A, n, c, hb⟩ := hi.slot
  have h2 : ad = ⟨g, ad.off, none⟩ := by cases ad; simp_all
  rw [h2, hb.cell] at p
  match ad.off, p with
  | 0, p => exact absurd p (by simp [icells])
  | 1, p => exact absurd p (by simp [icells])
  | _ + 2, p => exact absurd p (by simp [icells])
theorem sg_num {n : Bool} {s : ByteArray} (h : 0 < bval s.data.toList) : sg (num (n, s)) = if n then -1 else 1 := by
  unfold num
  cases n
  · show sg ((bval s.data.toList : Nat) : Int) = 1
    unfold sg; rw [if_neg (by omega), if_neg (by omega)]
  · show sg (-((bval s.data.toList : Nat) : Int)) = -1
    unfold sg; rw [if_neg (by omega), if_pos (by omega)]
/-- an answer of two, whose second is an error's number or a truth; refused: no -/
def Said (w : World) (ok : Prop) (v no : Value) (e : Ending) (w' : World) : Prop := (ok → e = .returned v) ∧ (¬ ok → e = .returned no) ∧ Below w.heap.size w w'

set_option maxRecDepth 100000 in
set_option maxHeartbeats 2000000 in
theorem text_any {w : World} {na : Bool} {sa : ByteArray} :
    Calls Tryz.prog 92 #[.agg #[.bool na, .string sa]] w (Said w (MayL na sa.data.toList) (.tuple #[.string ⟨(txt (num (na, sa))).toArray⟩, .int .i64 0]) (.tuple #[.string ⟨#[]⟩, .int .i64 2])) := by
  have hb1 := new_below w (.cells #[.bool na, .string sa] 34)
  have hO := of_one (w := w.alloc (.cells #[.bool na, .string sa] 34)) (na := na) (sa := sa)
  rw [World.size_alloc] at hO
  have HO := Lib.hid hO
  have Hb := Lib.hid hb1
  clear hO hb1
  go_enter Tryz.func92, Tryz.ntmps92
  go_wp2_with fail
  refine HO.out.mono ?_
  rintro e w5 ⟨h1, h2, hb5⟩
  have hb05 := Hb.out.trans (hb5.mono (by simp))
  have H5 := Lib.hid hb05
  clear hb5 hb05
  by_cases hm : MayL na sa.data.toList
  · obtain ⟨ad, c, g, rfl, hadb, p0, hi, hg⟩ := h1 hm
    have Hlen := Lib.hid (len_num (a := (na, sa)) hm)
    have HB := Lib.hid (string_any hi (by have := Hlen.out; omega))
    have Hm := Lib.hid hm
    clear h1 h2 hm hi
    go_wp2_with fail
    refine HB.out.mono ?_
    rintro e w6 ⟨rfl, hb6⟩
    go_wp2
    refine bodyPost_ret (v := .tuple #[.string ⟨(txt (num (na, sa))).toArray⟩, .int .i64 0]) (by simp [results, Tryz.results92, go_sem]) rfl ?_
    exact ⟨fun _ => rfl, fun h => absurd Hm.out h, H5.out.trans (hb6.mono H5.out.size)⟩
  · obtain ⟨A5, n5, c5, rfl⟩ := h2 hm
    have Hm := Lib.hid hm
    clear h1 h2 hm
    go_wp2
    refine bodyPost_ret (v := .tuple #[.string ⟨#[]⟩, .int .i64 2]) (by simp [results, Tryz.results92, go_sem]) rfl ?_
    exact ⟨fun h => absurd h Hm.out, fun _ => rfl, H5.out⟩
set_option maxRecDepth 100000 in
set_option maxHeartbeats 2000000 in
theorem wsign_any {w : World} {na : Bool} {sa : ByteArray} :
    Calls Tryz.prog 118 #[.agg #[.bool na, .string sa]] w (Said w (MayL na sa.data.toList) (.int .i64 (sg (num (na, sa)))) (.int .i64 0)) := by
  have hb1 := new_below w (.cells #[.bool na, .string sa] 34)
  by_cases hm : MayL na sa.data.toList
  · have HC := Lib.hid (check_ok (w := w.alloc (.cells #[.bool na, .string sa] 34)) hm)
    have hl : sa.data.toList.length = sa.size := Array.length_toList
    have Hm := Lib.hid hm
    rcases Nat.eq_zero_or_pos sa.size with h0 | h0
    · have he : sa.data.toList = [] := List.eq_nil_of_length_eq_zero (by omega)
      obtain rfl := str_empty he
      obtain rfl := hm.2.1 he
      have Hb := Lib.hid hb1
      clear hl h0 he hb1 hm
      go_enter Tryz.func118, Tryz.ntmps118
      go_wp2_with fail
      refine HC.out.mono ?_
      rintro e w6 ⟨rfl, hb6⟩
      have hc0 : w6.cell? ⟨w.heap.size, 0, none⟩ = some (.bool false) := ((Blk.new w 34 #[.bool false, .string ⟨#[]⟩]).below hb6 (by simp)).cell 0
      have hc1 : w6.cell? ⟨w.heap.size, 1, none⟩ = some (.string ⟨#[]⟩) := ((Blk.new w 34 #[.bool false, .string ⟨#[]⟩]).below hb6 (by simp)).cell 1
      have Hb6 := Lib.hid hb6
      clear hb6
      go_wp2
      go_ret
      exact ⟨fun _ => rfl, fun h => absurd Hm.out h, Hb.out.trans (Hb6.out.mono (by simp))⟩
    · obtain ⟨e1, e2⟩ := str_facts h0
      have hpos : 0 < bval sa.data.toList := bval_pos hm.2.2 (by intro h; rw [h] at hl; simp at hl; omega)
      have Hb := Lib.hid hb1
      have Hpos := Lib.hid hpos
      clear hl h0 hb1 hm hpos
      cases na with
      | true =>
        go_enter Tryz.func118, Tryz.ntmps118
        go_wp2_with fail
        refine HC.out.mono ?_
        rintro e w6 ⟨rfl, hb6⟩
        have hc0 : w6.cell? ⟨w.heap.size, 0, none⟩ = some (.bool true) := ((Blk.new w 34 #[.bool true, .string sa]).below hb6 (by simp)).cell 0
        have hc1 : w6.cell? ⟨w.heap.size, 1, none⟩ = some (.string sa) := ((Blk.new w 34 #[.bool true, .string sa]).below hb6 (by simp)).cell 1
        have Hb6 := Lib.hid hb6
        clear hb6
        go_wp2
        go_ret
        exact ⟨fun _ => by rw [sg_num Hpos.out]; rfl, fun h => absurd Hm.out h, Hb.out.trans (Hb6.out.mono (by simp))⟩
      | false =>
        go_enter Tryz.func118, Tryz.ntmps118
        go_wp2_with fail
        refine HC.out.mono ?_
        rintro e w6 ⟨rfl, hb6⟩
        have hc0 : w6.cell? ⟨w.heap.size, 0, none⟩ = some (.bool false) := ((Blk.new w 34 #[.bool false, .string sa]).below hb6 (by simp)).cell 0
        have hc1 : w6.cell? ⟨w.heap.size, 1, none⟩ = some (.string sa) := ((Blk.new w 34 #[.bool false, .string sa]).below hb6 (by simp)).cell 1
        have Hb6 := Lib.hid hb6
        clear hb6
        go_wp2
        go_ret
        exact ⟨fun _ => by rw [sg_num Hpos.out]; rfl, fun h => absurd Hm.out h, Hb.out.trans (Hb6.out.mono (by simp))⟩
  · have HC := Lib.hid (check_no (w := w.alloc (.cells #[.bool na, .string sa] 34)) hm)
    have Hm := Lib.hid hm
    have Hb := Lib.hid hb1
    clear hm hb1
    go_enter Tryz.func118, Tryz.ntmps118
    go_wp2_with fail
    refine HC.out.mono ?_
    rintro e w6 ⟨rfl, hb6⟩
    have Hb6 := Lib.hid hb6
    clear hb6
    go_wp2
    go_ret
    exact ⟨fun h => absurd h Hm.out, fun _ => rfl, Hb.out.trans (Hb6.out.mono (by simp))⟩
theorem ans_form {W w5 : World} {ok : Prop} {z : Int} {e : Ending} (h : Ans W ok z e w5) : ∃ (sn : Bool) (bn : ByteArray) (cd : Int), e = .returned (.tuple #[.agg #[.bool sn, .string bn], .int .i64 cd]) ∧ ∀ w w', Below w.heap.size w w' → Ans w ok z (.returned (.tuple #[.agg #[.bool sn, .string bn], .int .i64 cd])) w' := by
  obtain ⟨t1, t2, t3, _⟩ := h
  by_cases hm : ok
  · by_cases hf : fits z
    · exact ⟨_, _, 0, t1 hm hf, fun w w' hb => ⟨fun _ _ => rfl, fun _ h => absurd hf h, fun h => absurd hm h, hb⟩⟩
    · exact ⟨_, _, 4, t2 hm hf, fun w w' hb => ⟨fun _ h => absurd h hf, fun _ _ => rfl, fun h => absurd hm h, hb⟩⟩
  · exact ⟨_, _, 2, t3 hm, fun w w' hb => ⟨fun h => absurd h hm, fun h => absurd h hm, fun _ => rfl, hb⟩⟩
theorem mayL_zero : MayL false (⟨#[]⟩ : ByteArray).data.toList := ⟨Nat.zero_le _, fun _ => rfl, fun x hx => by cases hx⟩
theorem num_zero : num (false, ⟨#[]⟩) = 0 := rfl
theorem may2_left {a : Bool × ByteArray} : May2 (false, ⟨#[]⟩) a ↔ MayL a.1 a.2.data.toList := ⟨fun h => h.2, fun h => ⟨mayL_zero, h⟩⟩
theorem may2_right {a : Bool × ByteArray} : May2 a (false, ⟨#[]⟩) ↔ MayL a.1 a.2.data.toList := ⟨fun h => h.1, fun h => ⟨h, mayL_zero⟩⟩
end Go.Proofs.YtebpggfccljagaaGreatDoor

/- whole.Div (printed by gen_div.py). -/
namespace Go.Proofs.YtebpggfccljagaaGreatDoor
open Go.RowKit
open Wh
set_option linter.unusedSimpArgs false

/-- quotient and rest -/
def Quots (w : World) (a b : Bool × ByteArray) (e : Ending) (w' : World) : Prop :=
  (¬ May2 a b → e = .returned (.tuple #[none_, none_, .int .i64 2])) ∧ (May2 a b → num b = 0 → e = .returned (.tuple #[none_, none_, .int .i64 5])) ∧
  (May2 a b → num b ≠ 0 → e = .returned (.tuple #[enc (num a / num b), enc (num a % num b), .int .i64 0])) ∧ Below w.heap.size w w'
theorem same_pair {w : World} {g : Nat} {t : TypeId} {u v : Value} (h : Blk w g t #[u, v]) : Blk ((w.setCell ⟨g, 0, none⟩ u).setCell ⟨g, 1, none⟩ v) g t #[u, v] := (h.set_ 0 u).set_ 1 v
theorem put_pair {w : World} {g : Nat} {t : TypeId} {x y : Value} (u v : Value) (h : Blk w g t #[x, y]) : Blk ((w.setCell ⟨g, 0, none⟩ u).setCell ⟨g, 1, none⟩ v) g t #[u, v] := (h.set_ 0 u).set_ 1 v
theorem far_pair {w : World} {g g' : Nat} {t : TypeId} {cs : Array Value} (u v : Value) (h : Blk w g t cs) (hne : g ≠ g') : Blk ((w.setCell ⟨g', 0, none⟩ u).setCell ⟨g', 1, none⟩ v) g t cs := (Blk.far h (p := ⟨g', 0, none⟩) hne u).far (p := ⟨g', 1, none⟩) hne v
theorem Blk.two {w : World} {g : Nat} {t : TypeId} {u v : Value} (h : Blk w g t #[u, v]) : w.cell? ⟨g, 0, none⟩ = some u ∧ w.cell? ⟨g, 1, none⟩ = some v := ⟨h.cell 0, h.cell 1⟩
theorem num_nil {b : Bool × ByteArray} (hm : MayL b.1 b.2.data.toList) : num b = 0 ↔ b.2.size = 0 := by
  have hl : b.2.data.toList.length = b.2.size := Array.length_toList
  constructor
  · intro h
    rcases Nat.eq_zero_or_pos b.2.size with h0 | h0
    · exact h0
    · have h1 : 0 < bval b.2.data.toList := bval_pos hm.2.2 (by intro h; rw [h] at hl; simp at hl; omega)
      obtain ⟨n, s⟩ := b
      have h2 := sg_num (n := n) (s := s) h1
      rw [h] at h2
      cases n <;> exact absurd h2 (by decide)
  · intro h
    have h2 := str_empty (s := b.2) (List.eq_nil_of_length_eq_zero (by omega))
    obtain ⟨n, s⟩ := b
    dsimp only at h2
    subst h2
    cases n <;> rfl
theorem fits_len {l : List UInt8} {k : Nat} (h : 8 * l.length ≤ k) : bl (bval l) ≤ k := by
  refine bl_lt.2 (Nat.lt_of_lt_of_le (bval_lt _) ?_)
  rw [show (256 : Nat) = 2 ^ 8 by decide, ← Nat.pow_mul]
  exact Nat.pow_le_pow_right (by decide) h
theorem bl_mono {a m k : Nat} (h : a ≤ m) (hm : bl m ≤ k) : bl a ≤ k := bl_lt.2 (Nat.lt_of_le_of_lt h (bl_lt.1 hm))
theorem len_bl {a k : Nat} (h : bl a ≤ 32 * k) : (wds a).length ≤ k :=
  len_wds (Nat.lt_of_lt_of_le (bl_lt.1 h) (by rw [show (4294967296 : Nat) = 2 ^ 32 by decide, ← Nat.pow_mul]; exact Nat.le_refl _))
theorem fits_num {a : Bool × ByteArray} (h : MayL a.1 a.2.data.toList) : bl (num a).natAbs ≤ 131072 := by
  unfold num
  rw [sgn_abs]
  exact fits_len (by have := h.1; omega)
theorem fits_le {z : Int} {m : Nat} (h : z.natAbs ≤ m) (hm : bl m ≤ 131072) : fits z := bl_mono h hm
theorem len_fits {z : Int} (h : fits z) : (wds z.natAbs).length ≤ 5000 := Nat.le_trans (len_bl (k := 4096) h) (by decide)
theorem rest_le {x y : Int} (hy : y ≠ 0) : (x % y).natAbs ≤ y.natAbs := by
  have h1 := Int.emod_nonneg x hy
  have h2 := Int.emod_lt x hy
  omega
end Go.Proofs.YtebpggfccljagaaGreatDoor

/- whole.Root (printed by gen_root.py). -/
namespace Go.Proofs.YtebpggfccljagaaGreatDoor
open Go.RowKit
open Wh
set_option linter.unusedSimpArgs false

/-- root and rest -/
def Rooted (w : World) (a : Bool × ByteArray) (e : Ending) (w' : World) : Prop :=
  (¬ MayL a.1 a.2.data.toList → e = .returned (.tuple #[none_, none_, .int .i64 2])) ∧ (MayL a.1 a.2.data.toList → a.1 = true → e = .returned (.tuple #[none_, none_, .int .i64 7])) ∧
  (MayL a.1 a.2.data.toList → a.1 = false → ∃ r : Nat, r * r ≤ bval a.2.data.toList ∧ bval a.2.data.toList < (r + 1) * (r + 1) ∧ e = .returned (.tuple #[enc (r : Int), enc ((bval a.2.data.toList : Int) - (r : Int) * (r : Int)), .int .i64 0])) ∧ Below w.heap.size w w'
theorem root_le {r m : Nat} (h : r * r ≤ m) : r ≤ m := by
  rcases Nat.eq_zero_or_pos r with h0 | h0
  · omega
  · exact Nat.le_trans (Nat.le_mul_of_pos_left r h0) h
theorem rest_abs {r m : Nat} (h : r * r ≤ m) : ((m : Int) - (r : Int) * (r : Int)).natAbs ≤ m := by
  rw [show (r : Int) * (r : Int) = ((r * r : Nat) : Int) from (Int.natCast_mul r r).symm]
  generalize r * r = q at *
  omega
/-- where the square lies ready to be taken off -/
def Rdy (W V : World) (t u gx : Nat) (x q : Int) : Prop := IntS V t ∧ IntB V u q ∧ IntB V gx x ∧ Below W.heap.size W V ∧ W.heap.size ≤ t
theorem zslot (V : World) : IntS (V.alloc (.cells #[.bool false, .slice none 0 0] 151)) V.heap.size := (IntB.zero V).slot
end Go.Proofs.YtebpggfccljagaaGreatDoor

/- whole.Sum, whole.Gcd. -/
namespace Go.Proofs.YtebpggfccljagaaGreatDoor
open Go.RowKit
open Wh
set_option linter.unusedSimpArgs false

theorem sum_abs {P : Nat} : ∀ {zs : List Int}, (∀ z ∈ zs, z.natAbs ≤ P) → zs.sum.natAbs ≤ zs.length * P
  | [], _ => by simp
  | z :: zs, h => by
    have h1 := h z (by simp)
    have h2 := sum_abs (zs := zs) (fun y hy => h y (by simp [hy]))
    rw [List.sum_cons, List.length_cons, Nat.succ_mul]
    have := Int.natAbs_add_le z zs.sum
    omega
theorem sum_bl {k : Nat} {zs : List Int} (h : ∀ z ∈ zs, bl z.natAbs ≤ k) (hl : zs.length ≤ 100000) : bl zs.sum.natAbs ≤ 32 + k := by
  have h1 := sum_abs (P := 2 ^ k) (zs := zs) (fun z hz => Nat.le_of_lt (bl_lt.1 (h z hz)))
  refine bl_lt.2 (Nat.lt_of_le_of_lt h1 ?_)
  rw [Nat.pow_add]
  exact Nat.mul_lt_mul_of_pos_right (by omega) (Nat.pow_pos (by decide))
theorem sum_len {zs : List Int} (h : ∀ z ∈ zs, bl z.natAbs ≤ 131072) (hl : zs.length ≤ 100000) : (wds zs.sum.natAbs).length ≤ 5000 :=
  Nat.le_trans (len_bl (k := 4097) (sum_bl h hl)) (by omega)
theorem sum_take {zs : List Int} {i : Nat} (h : i < zs.length) : (zs.take (i + 1)).sum = (zs.take i).sum + zs[i] := by
  rw [List.take_succ_eq_append_getElem h, List.sum_append]; simp
theorem Ints.len {w : World} : ∀ {gs : List Nat} {zs : List Int}, Ints w gs zs → gs.length = zs.length
  | [], [], _ => rfl
  | _ :: _, _ :: _, ⟨_, _, h⟩ => by rw [List.length_cons, List.length_cons, h.len]
  | [], _ :: _, h => h.elim
  | _ :: _, [], h => h.elim
theorem Ints.drop {w : World} : ∀ {gs : List Nat} {zs : List Int} (i : Nat), Ints w gs zs → Ints w (gs.drop i) (zs.drop i)
  | _, _, 0, h => h
  | _ :: _, _ :: _, i + 1, ⟨_, _, h⟩ => h.drop i
  | [], [], _ + 1, _ => trivial
  | [], _ :: _, _, h => h.elim
  | _ :: _, [], _, h => h.elim
theorem Ints.at_ {w : World} {gs : List Nat} {zs : List Int} {i : Nat} (h : Ints w (gs.drop i) (zs.drop i)) (h1 : i < gs.length) (h2 : i < zs.length) : IntB w gs[i] zs[i] ∧ gs[i] ∉ gs.drop (i + 1) ∧ Ints w (gs.drop (i + 1)) (zs.drop (i + 1)) := by
  rw [List.drop_eq_getElem_cons h1, List.drop_eq_getElem_cons h2] at h
  exact h
/-- the pointers stay where a number's block changes -/
theorem slot_ptr_ne {w : World} {ad : Addr} {g : Nat} {q : Option Addr} (hi : IntS w g) (p : w.cell? ad = some (.pointer q)) : ad.block ≠ g := by
  intro h
  have hs := World.cell?_spot p
  obtain ⟨s, A, n, c, hb⟩ := hi
  have h2 : ad = ⟨g, ad.off, none⟩ := by cases ad; simp_all
  rw [h2, hb.cell] at p
  match ad.off, p with
  | 0, p => exact absurd p (by simp [icells])
  | 1, p => exact absurd p (by simp [icells])
  | _ + 2, p => exact absurd p (by simp [icells])
theorem ReadsP.off {w w' : World} {B g : Nat} {A : Option Addr} {l : List Nat} (h : ReadsP w B A l) (hi : IntS w g) (hg : w.grownBy w' (some g)) : ReadsP w' B A l := by
  refine ⟨h.1, fun hn => ?_⟩
  obtain ⟨ad, e, hb, hc⟩ := h.2 hn
  refine ⟨ad, e, hb, fun j u hu => ?_⟩
  have h1 := hc j u hu
  obtain ⟨b, _, rfl⟩ : ∃ b, b ∈ l ∧ u = pv b := by
    obtain ⟨b, hb2, hb3⟩ := List.mem_map.1 (List.mem_of_getElem? hu)
    exact ⟨b, hb2, hb3.symm⟩
  have hne := slot_ptr_ne hi h1
  exact hg.cell h1 (by intro h5; injection h5 with h5; exact hne h5)

/-- the greatest divisor of all -/
def gcdl (zs : List Int) : Nat := zs.foldl (fun g z => Nat.gcd g z.natAbs) 0
theorem gcdl_take {zs : List Int} {i : Nat} (h : i < zs.length) : gcdl (zs.take (i + 1)) = Nat.gcd (gcdl (zs.take i)) zs[i].natAbs := by
  unfold gcdl
  rw [List.take_succ_eq_append_getElem h, List.foldl_append]
  rfl
theorem gcd_bl {g z : Nat} (hg : bl g ≤ 131072) (hz : bl z ≤ 131072) : bl (Nat.gcd g z) ≤ 131072 := by
  rcases Nat.eq_zero_or_pos g with h | h
  · rw [h, Nat.gcd_zero_left]; exact hz
  · exact bl_mono (Nat.gcd_le_left z h) hg
theorem gcdl_bl : ∀ {zs : List Int} {g : Nat}, bl g ≤ 131072 → (∀ z ∈ zs, bl z.natAbs ≤ 131072) → bl (zs.foldl (fun g z => Nat.gcd g z.natAbs) g) ≤ 131072
  | [], _, h, _ => h
  | z :: zs, g, h, hz => by
    rw [List.foldl_cons]
    exact gcdl_bl (gcd_bl h (hz z (by simp))) (fun y hy => hz y (by simp [hy]))
theorem gcdl_fits {zs : List Int} (h : ∀ z ∈ zs, bl z.natAbs ≤ 131072) : bl (gcdl zs) ≤ 131072 := gcdl_bl (Nat.le_trans ((bl_lt (k := 1)).2 (by decide)) (by decide)) h
theorem gcdl_len {zs : List Int} (h : ∀ z ∈ zs, bl z.natAbs ≤ 131072) : (wds (gcdl zs)).length ≤ 5000 := Nat.le_trans (len_bl (k := 4096) (gcdl_fits h)) (by omega)
end Go.Proofs.YtebpggfccljagaaGreatDoor

/- What the laws on whole numbers share: num, ok, enc's form. -/
namespace Go.Proofs.YtebpggfccljagaaGreatDoor
open Go.RowKit
open Wh
set_option linter.unusedSimpArgs false

theorem reads_zero {w : World} {B n k : Nat} {A : Option Addr} (h : Reads w B 1 A n (List.replicate n (.int .i64 0))) (hk : k < n) : ∃ ad, A = some ad ∧ w.cell? (ad.add k) = some (.int .i64 0) := by
  obtain ⟨ad, u, e, _, hu, hc⟩ := h.at_ hk
  refine ⟨ad, e, ?_⟩
  rw [hc]
  rw [List.getElem?_replicate, if_pos hk] at hu
  exact hu.symm
theorem pow_bytes (k : Nat) : 256 ^ k = 2 ^ (8 * k) := by rw [show (256 : Nat) = 2 ^ 8 by decide, ← Nat.pow_mul]
theorem bl_bytes {n k : Nat} (h : bl n ≤ 8 * k) : (bys n).length ≤ k := bys_len (by rw [pow_bytes]; exact bl_lt.1 h)
/-- a number's value: a sign and bytes that may be -/
theorem enc_form {z : Int} (hf : fits z) : ∃ s b, enc z = .agg #[.bool s, .string b] ∧ num (s, b) = z ∧ MayL s b.data.toList := by
  refine ⟨_, _, rfl, ?_, ?_, ?_, ?_⟩
  · show sgn _ (bval (bys z.natAbs)) = z
    rw [bval_b, sgn_of]
  · show (bys z.natAbs).length ≤ 16384
    exact bl_bytes (k := 16384) hf
  · intro h
    have h1 : bval (bys z.natAbs) = 0 := by rw [show bys z.natAbs = [] from h]; rfl
    rw [bval_b] at h1
    simp; omega
  · exact formed_b _
theorem fits_small {z : Int} (h : z.natAbs ≤ 18446744073709551615) : fits z := bl_small h
end Go.Proofs.YtebpggfccljagaaGreatDoor

/- The variables of a law in the heap. -/
namespace Go.Proofs.YtebpggfccljagaaGreatDoor
open Go.RowKit
open Wh
set_option linter.unusedSimpArgs false

/-- blocks that a law has made, since w0 -/
def Env (w0 W : World) (l : List (Nat × TypeId × Array Value)) : Prop := Below w0.heap.size w0 W ∧ ∀ x ∈ l, Blk W x.1 x.2.1 x.2.2
section
variable {w0 W W' : World} {l : List (Nat × TypeId × Array Value)} {g : Nat} {t : TypeId} {cs : Array Value}
theorem Env.nil (w : World) : Env w w [] := ⟨Below.refl _ _, fun _ h => by cases h⟩
theorem Env.call (h : Env w0 W l) (hb : Below W.heap.size W W') : Env w0 W' l := ⟨h.1.trans (hb.mono h.1.size), fun x hx => (h.2 x hx).below hb (h.2 x hx).lt⟩
theorem Env.calm (h : Env w0 W l) (hb : W = W') : Env w0 W' l := hb ▸ h
theorem Env.drew (h : Env w0 W l) : Env w0 W.drew l := ⟨h.1.drew, h.2⟩
theorem Env.drewN (h : Env w0 W l) (k : Nat) : Env w0 (W.drewN k) l := ⟨below_drewN h.1 k, h.2⟩
theorem Env.new (h : Env w0 W l) (t : TypeId) (cs : Array Value) : Env w0 (W.alloc (.cells cs t)) ((W.heap.size, t, cs) :: l) :=
  ⟨h.1.alloc h.1.size _, fun x hx => by
    rcases List.mem_cons.1 hx with rfl | hx
    · exact Blk.new W t _
    · exact (h.2 x hx).alloc _⟩
theorem Env.other (h : Env w0 W l) (o : Obj) : Env w0 (W.alloc o) l := ⟨h.1.alloc h.1.size _, fun x hx => (h.2 x hx).alloc _⟩
theorem Env.drop (h : Env w0 W l) (n : Nat) : Env w0 W (l.drop n) := ⟨h.1, fun x hx => h.2 x (List.mem_of_mem_drop hx)⟩
theorem Env.at_ (h : Env w0 W l) (i : Nat) (hx : l[i]? = some (g, t, cs)) : Blk W g t cs := h.2 _ (List.mem_of_getElem? hx)
end
/-- what stands behind the first n statements of a function's text -/
def codeRest : Nat → Code → Code
  | n + 1, .seq _ b => codeRest n b
  | _, c => c
def bodyOf (f : Func) : Code := f.body.getD .skip
end Go.Proofs.YtebpggfccljagaaGreatDoor

/- law.works (printed by gen_works.py). -/
namespace Go.Proofs.YtebpggfccljagaaGreatDoor
open Go.RowKit
open Wh
set_option linter.unusedSimpArgs false

theorem txt300 : (⟨(txt (-300)).toArray⟩ : ByteArray) = ⟨#[45, 51, 48, 48]⟩ := by
  have h : txt (-300) = [45, 51, 48, 48] := by
    unfold txt
    rw [if_neg (by decide), if_pos (by decide), show (-300 : Int).natAbs = 300 from rfl, dec_pos (by decide), dec_pos (n := 300 / 10) (by decide), dec_pos (n := 300 / 10 / 10) (by decide), show 300 / 10 / 10 / 10 = 0 from rfl, dec_zero]
    rfl
  rw [h]
end Go.Proofs.YtebpggfccljagaaGreatDoor

/- Whole numbers' sizes; the plain laws of division, greatest divisors, roots. -/
namespace Go.Proofs.YtebpggfccljagaaGreatDoor
open Go.RowKit
open Wh
set_option linter.unusedSimpArgs false

/-- a number of at most k bits -/
def SB (k : Nat) (z : Int) : Prop := z.natAbs < 2 ^ k
theorem SB.mono {k j : Nat} {z : Int} (h : SB k z) (hk : k ≤ j) : SB j z := Nat.lt_of_lt_of_le h (Nat.pow_le_pow_right (by decide) hk)
theorem SB.bl {k n : Nat} {z : Int} (h : SB k z) (hk : k ≤ n) : bl z.natAbs ≤ n := bl_lt.2 (h.mono hk)
theorem SB.fits {k : Nat} {z : Int} (h : SB k z) (hk : k ≤ 131072) : fits z := h.bl hk
theorem SB.le {k : Nat} {z y : Int} (h : SB k z) (hy : y.natAbs ≤ z.natAbs) : SB k y := Nat.lt_of_le_of_lt hy h
theorem SB.mul {k j : Nat} {x y : Int} (hx : SB k x) (hy : SB j y) : SB (k + j) (x * y) := by
  unfold SB
  rw [Int.natAbs_mul, Nat.pow_add]
  exact Nat.mul_lt_mul'' hx hy
theorem SB.add {k : Nat} {x y : Int} (hx : SB k x) (hy : SB k y) : SB (k + 1) (x + y) := by
  have h1 := Int.natAbs_add_le x y
  unfold SB at *
  rw [Nat.pow_succ]
  omega
theorem SB.sub {k : Nat} {x y : Int} (hx : SB k x) (hy : SB k y) : SB (k + 1) (x - y) := by
  have h1 := Int.natAbs_sub_le x y
  unfold SB at *
  rw [Nat.pow_succ]
  omega
theorem SB.neg {k : Nat} {x : Int} (hx : SB k x) : SB k (-x) := hx.le (by omega)
theorem SB.zero (k : Nat) : SB k 0 := Nat.pow_pos (by decide)
theorem may_sb {n : Bool} {s : ByteArray} {k : Nat} (h : s.size ≤ k) : SB (8 * k) (num (n, s)) := by
  unfold SB num
  rw [sgn_abs, ← pow_bytes]
  have hl : s.data.toList.length = s.size := Array.length_toList
  exact Nat.lt_of_lt_of_le (bval_lt _) (Nat.pow_le_pow_right (by decide) (by show s.data.toList.length ≤ k; omega))
theorem may_num {n : Bool} {s : ByteArray} (h : MayL n s.data.toList) : enc (num (n, s)) = .agg #[.bool n, .string s] := by
  unfold enc num
  rw [sgn_neg, sgn_abs, show bys (bval s.data.toList) = s.data.toList from bys_bval _ _ rfl h.2.2]
  have h1 : (n && decide (0 < bval s.data.toList)) = n := by
    cases n
    · rfl
    · have hne : s.data.toList ≠ [] := fun h0 => absurd (h.2.1 h0) (by decide)
      rw [Bool.true_and, decide_eq_true (bval_pos h.2.2 hne)]
  rw [h1]
theorem enc_zero : enc 0 = .agg #[.bool false, .string ⟨#[]⟩] := by
  unfold enc
  rw [Int.natAbs_zero, bys_zero]
  rfl
theorem enc_one : enc 1 = .agg #[.bool false, .string ⟨#[1]⟩] := by
  unfold enc
  rw [show (1 : Int).natAbs = 1 from rfl, bys_pos (by decide), show 1 / 256 = 0 from rfl, bys_zero]
  rfl
theorem may_none {n : Bool} {s : ByteArray} (hm : MayL n s.data.toList) (h : s.size = 0) : n = false ∧ s = ⟨#[]⟩ := by
  have hl : s.data.toList.length = s.size := Array.length_toList
  have h1 := List.eq_nil_of_length_eq_zero (show s.data.toList.length = 0 by omega)
  exact ⟨hm.2.1 h1, str_empty h1⟩
/-- the form of a number that is not nought -/
theorem form_pos {z : Int} {s : Bool} {b : ByteArray} (hn : num (s, b) = z) (hz : z ≠ 0) : 0 < b.size := by
  rcases Nat.eq_zero_or_pos b.size with h | h
  · exfalso
    have hl : b.data.toList.length = b.size := Array.length_toList
    obtain rfl := str_empty (s := b) (List.eq_nil_of_length_eq_zero (by omega))
    apply hz
    rw [← hn]
    cases s <;> rfl
  · exact h
theorem form_sign {z : Int} {s : Bool} {b : ByteArray} (hn : num (s, b) = z) (hm : MayL s b.data.toList) (hz : 0 ≤ z) : s = false := by
  cases s
  · rfl
  · exfalso
    have hne : b.data.toList ≠ [] := fun h0 => absurd (hm.2.1 h0) (by decide)
    have h1 : 0 < bval b.data.toList := bval_pos hm.2.2 hne
    have h2 : num (true, b) = -(bval b.data.toList : Int) := rfl
    rw [h2] at hn
    omega
theorem gcdl_two (x y : Int) : gcdl [x, y] = Nat.gcd x.natAbs y.natAbs := by
  unfold gcdl
  rw [List.foldl_cons, List.foldl_cons, List.foldl_nil, Nat.gcd_zero_left]
theorem gcdl_swap (x y : Int) : gcdl [y, x] = gcdl [x, y] := by rw [gcdl_two, gcdl_two, Nat.gcd_comm]
theorem gcdl_minus (x y : Int) : gcdl [-y, x] = gcdl [x, y] := by rw [gcdl_two, gcdl_two, Int.natAbs_neg, Nat.gcd_comm]
theorem gcdl_none {x y : Int} (h : (gcdl [x, y] : Int) = 0) : x = 0 ∧ y = 0 := by
  rw [gcdl_two] at h
  have h1 : Nat.gcd x.natAbs y.natAbs = 0 := by omega
  have h2 := Nat.gcd_eq_zero_iff.1 h1
  omega
theorem gcdl_sb {x y : Int} {k : Nat} (hx : SB k x) (hy : SB k y) : SB k (gcdl [x, y] : Int) := by
  unfold SB
  rw [Int.natAbs_natCast, gcdl_two]
  rcases Nat.eq_zero_or_pos x.natAbs with h | h
  · rw [h, Nat.gcd_zero_left]; exact hy
  · exact Nat.lt_of_le_of_lt (Nat.gcd_le_left _ h) hx
theorem gcd_div_left {x y : Int} : x % (gcdl [x, y] : Int) = 0 := by
  rw [gcdl_two]
  exact Int.emod_eq_zero_of_dvd (Int.ofNat_dvd_left.2 (Nat.gcd_dvd_left _ _))
theorem gcd_div_right {x y : Int} : y % (gcdl [x, y] : Int) = 0 := by
  rw [gcdl_two]
  exact Int.emod_eq_zero_of_dvd (Int.ofNat_dvd_left.2 (Nat.gcd_dvd_right _ _))
theorem gcd_one {x y : Int} (h : (gcdl [x, y] : Int) ≠ 0) : gcdl [x / (gcdl [x, y] : Int), y / (gcdl [x, y] : Int)] = 1 := by
  rw [gcdl_two] at *
  have h0 : 0 < Nat.gcd x.natAbs y.natAbs := by omega
  rw [gcdl_two, Int.natAbs_ediv_of_dvd (Int.ofNat_dvd_left.2 (Nat.gcd_dvd_left _ _)), Int.natAbs_ediv_of_dvd (Int.ofNat_dvd_left.2 (Nat.gcd_dvd_right _ _)), Int.natAbs_natCast]
  exact Nat.coprime_div_gcd_div_gcd h0
end Go.Proofs.YtebpggfccljagaaGreatDoor

/- whole's operations, their answers' forms known. -/
namespace Go.Proofs.YtebpggfccljagaaGreatDoor
open Go.RowKit
open Wh
set_option linter.unusedSimpArgs false

section
variable {w : World} {na nb : Bool} {sa sb : ByteArray} {z : Int} {s : Bool} {b : ByteArray}
/-- a number and no error -/
def T2 (w : World) (s : Bool) (b : ByteArray) (e : Ending) (w' : World) : Prop := e = .returned (.tuple #[.agg #[.bool s, .string b], .int .i64 0]) ∧ Below w.heap.size w w'
theorem ans_told {ok : Prop} {z' : Int} {e : Ending} {w' : World} (h : Ans w ok z' e w') (hok : ok) (hz : z' = z) (hf : fits z) (he : enc z = .agg #[.bool s, .string b]) : T2 w s b e w' := by
  subst hz
  exact ⟨by rw [h.1 hok hf, he], h.2.2.2⟩
theorem sign_told (hm : MayL na sa.data.toList) : Calls Tryz.prog 118 #[.agg #[.bool na, .string sa]] w (fun e w' => e = .returned (.int .i64 (sg (num (na, sa)))) ∧ Below w.heap.size w w') :=
  wsign_any.mono fun _ _ h => ⟨h.1 hm, h.2.2⟩
/-- two numbers and no error -/
def T3 (w : World) (s : Bool) (b : ByteArray) (s' : Bool) (b' : ByteArray) (e : Ending) (w' : World) : Prop := e = .returned (.tuple #[.agg #[.bool s, .string b], .agg #[.bool s', .string b'], .int .i64 0]) ∧ Below w.heap.size w w'
end
theorem sg_nonneg {z : Int} (h : 0 ≤ z) : 0 ≤ sg z ∧ sg z ≤ 1 := by
  unfold sg
  by_cases h0 : z = 0
  · simp [h0]
  · rw [if_neg h0, if_neg (by omega)]; omega
theorem cmp_lt {x y : Int} (h : x < y) : cmpI x y = -1 := by unfold cmpI; rw [if_pos h]
theorem cmp_le {x y : Int} (h : x ≤ y) : -1 ≤ cmpI x y ∧ cmpI x y ≤ 0 := by
  unfold cmpI
  by_cases h1 : x < y
  · rw [if_pos h1]; omega
  · rw [if_neg h1, if_neg (by omega)]; omega
theorem root_ex : ∀ m : Nat, ∃ r : Nat, r * r ≤ m ∧ m < (r + 1) * (r + 1)
  | 0 => ⟨0, by decide, by decide⟩
  | m + 1 => by
    obtain ⟨r, h1, h2⟩ := root_ex m
    by_cases h : m + 1 < (r + 1) * (r + 1)
    · exact ⟨r, by omega, h⟩
    · refine ⟨r + 1, by omega, ?_⟩
      have : (r + 1 + 1) * (r + 1 + 1) = (r + 1) * (r + 1) + (r + 1) + (r + 1) + 1 := by
        rw [Nat.add_mul (r + 1) 1, Nat.mul_add]
        omega
      omega
theorem root_only {m r s : Nat} (h1 : r * r ≤ m) (h2 : m < (r + 1) * (r + 1)) (h3 : s * s ≤ m) (h4 : m < (s + 1) * (s + 1)) : r = s := by
  rcases Nat.lt_trichotomy r s with h | h | h
  · have := Nat.mul_le_mul h h
    simp only [Nat.succ_eq_add_one] at this
    omega
  · exact h
  · have := Nat.mul_le_mul h h
    simp only [Nat.succ_eq_add_one] at this
    omega
theorem root_rest {r m : Nat} (h1 : r * r ≤ m) (h2 : m < (r + 1) * (r + 1)) : 0 ≤ (m : Int) - (r : Int) * (r : Int) ∧ (m : Int) - (r : Int) * (r : Int) ≤ (r : Int) + (r : Int) := by
  rw [show (r : Int) * (r : Int) = ((r * r : Nat) : Int) from (Int.natCast_mul r r).symm]
  have : (r + 1) * (r + 1) = r * r + r + r + 1 := by rw [Nat.add_mul, Nat.mul_add]; omega
  rw [this] at h2
  generalize r * r = q at *
  omega
theorem root_small {r m : Nat} (h1 : r * r ≤ m) : r ≤ m := Nat.le_trans (Nat.le_mul_self r) h1
theorem root_sizes {sa : ByteArray} {r k : Nat} (h1 : r * r ≤ bval sa.data.toList) (hs : SB k (num (false, sa))) : SB k (r : Int) ∧ SB k ((r : Int) * (r : Int)) ∧ SB k (num (false, sa) - (r : Int) * (r : Int)) := by
  have he : num (false, sa) = ((bval sa.data.toList : Nat) : Int) := rfl
  have h2 := root_small h1
  rw [show (r : Int) * (r : Int) = ((r * r : Nat) : Int) from (Int.natCast_mul r r).symm]
  rw [he] at hs ⊢
  refine ⟨hs.le ?_, hs.le ?_, hs.le ?_⟩ <;> omega
/-- nothing, by its length -/
theorem str_none {s : ByteArray} (h : s.size = 0) : s.toList.isEmpty = true ∧ s.toList = [] := by
  have hl : s.data.toList.length = s.size := Array.length_toList
  rw [toL]
  have : s.data.toList = [] := List.eq_nil_of_length_eq_zero (by omega)
  rw [this]
  exact ⟨rfl, rfl⟩
end Go.Proofs.YtebpggfccljagaaGreatDoor

/- Decimal texts read: plain, no Go in sight. -/
namespace Go.Proofs.YtebpggfccljagaaGreatDoor
namespace Wh

/-- what digits say -/
def dv (l : List UInt8) : Nat := l.foldl (fun a b => 10 * a + (b.toNat - 48)) 0
def IsDig (b : UInt8) : Prop := 48 ≤ b.toNat ∧ b.toNat ≤ 57
def AllDig (l : List UInt8) : Prop := ∀ b ∈ l, IsDig b
theorem dv_nil : dv [] = 0 := rfl
theorem dv_snoc (l : List UInt8) (b : UInt8) : dv (l ++ [b]) = 10 * dv l + (b.toNat - 48) := by
  unfold dv; rw [List.foldl_append]; rfl
theorem dv_app (l : List UInt8) : ∀ (k : Nat) (m : List UInt8), m.length = k → dv (l ++ m) = dv l * 10 ^ k + dv m
  | 0, m, h => by
    obtain rfl := List.eq_nil_of_length_eq_zero h
    rw [List.append_nil, Nat.pow_zero, Nat.mul_one, dv_nil, Nat.add_zero]
  | k + 1, m, h => by
    have hne : m ≠ [] := by intro h0; rw [h0] at h; simp at h
    obtain ⟨m', b, rfl⟩ : ∃ m' b, m = m' ++ [b] := ⟨m.dropLast, m.getLast hne, (List.dropLast_concat_getLast hne).symm⟩
    rw [List.length_append] at h
    simp only [List.length_cons, List.length_nil] at h
    rw [← List.append_assoc, dv_snoc, dv_app l k m' (by omega), dv_snoc, Nat.pow_succ]
    rw [show dv l * (10 ^ k * 10) = 10 * (dv l * 10 ^ k) by ac_rfl]
    omega
theorem allDig_app {l m : List UInt8} : AllDig (l ++ m) ↔ AllDig l ∧ AllDig m :=
  ⟨fun h => ⟨fun b hb => h b (List.mem_append_left _ hb), fun b hb => h b (List.mem_append_right _ hb)⟩, fun h b hb => (List.mem_append.1 hb).elim (h.1 b) (h.2 b)⟩
theorem dv_lt : ∀ (k : Nat) (l : List UInt8), l.length = k → AllDig l → dv l < 10 ^ k
  | 0, l, h, _ => by
    obtain rfl := List.eq_nil_of_length_eq_zero h
    exact Nat.one_pos
  | k + 1, m, h, hd => by
    have hne : m ≠ [] := by intro h0; rw [h0] at h; simp at h
    obtain ⟨m', b, rfl⟩ : ∃ m' b, m = m' ++ [b] := ⟨m.dropLast, m.getLast hne, (List.dropLast_concat_getLast hne).symm⟩
    rw [List.length_append] at h
    simp only [List.length_cons, List.length_nil] at h
    have h1 := dv_lt k m' (by omega) (allDig_app.1 hd).1
    have h2 := hd b (by simp)
    unfold IsDig at h2
    rw [dv_snoc, Nat.pow_succ]
    omega
theorem allDig_cons {b : UInt8} {l : List UInt8} : AllDig (b :: l) ↔ IsDig b ∧ AllDig l :=
  ⟨fun h => ⟨h b List.mem_cons_self, fun x hx => h x (List.mem_cons_of_mem _ hx)⟩, fun h x hx => by
    rcases List.mem_cons.1 hx with rfl | hx
    · exact h.1
    · exact h.2 x hx⟩
/-- one step over the digits of a chunk -/
theorem dv_take {l : List UInt8} {i : Nat} (h : i < l.length) : dv (l.take (i + 1)) = 10 * dv (l.take i) + (l[i].toNat - 48) := by
  rw [List.take_succ_eq_append_getElem h, dv_snoc]
theorem allDig_take {l : List UInt8} {i : Nat} (h : i < l.length) (h1 : AllDig (l.take i)) (h2 : IsDig l[i]) : AllDig (l.take (i + 1)) := by
  rw [List.take_succ_eq_append_getElem h]
  exact allDig_app.2 ⟨h1, allDig_cons.2 ⟨h2, fun b hb => by cases hb⟩⟩
/-- one word of a number times a power of ten, and more -/
theorem mul_step {o a add x by_ add0 P : Nat} (h : o + P * add = a * by_ + add0) : o + P * ((add + x * by_) % 4294967296) + P * 4294967296 * ((add + x * by_) / 4294967296) = (a + P * x) * by_ + add0 := by
  have h1 := Nat.mod_add_div (add + x * by_) 4294967296
  have h2 : P * ((add + x * by_) % 4294967296) + P * 4294967296 * ((add + x * by_) / 4294967296) = P * add + P * x * by_ := by
    rw [Nat.mul_assoc P, ← Nat.mul_add, h1, Nat.mul_add, Nat.mul_assoc]
  rw [Nat.add_mul]
  omega
theorem mul_bounds {add x by_ : Nat} (h1 : add ≤ 999999999) (h2 : x < 4294967296) (h3 : by_ ≤ 1000000000) : add + x * by_ ≤ 4294967295999999999 ∧ (add + x * by_) / 4294967296 ≤ 999999999 := by
  have h4 : x * by_ ≤ 4294967295 * 1000000000 := Nat.mul_le_mul (by omega) h3
  omega
theorem ten_le {n : Nat} (h : n ≤ 9) : 10 ^ n ≤ 1000000000 := Nat.le_trans (Nat.pow_le_pow_right (by decide) h) (by decide)
end Wh
end Go.Proofs.YtebpggfccljagaaGreatDoor

/- *big.Int: SetString (printed by gen_setstr.py). -/
namespace Go.Proofs.YtebpggfccljagaaGreatDoor
open Go.RowKit
open Wh
set_option linter.unusedSimpArgs false
set_option linter.unusedVariables false

theorem OwnW.set_ {w : World} {B n c i : Nat} {A : Option Addr} {l : List Nat} (h : OwnW w B (.slice A n c) l) (hi : i < l.length) :
    ∃ g, A = some ⟨g, 0, none⟩ ∧ B ≤ g ∧ g < w.heap.size ∧ w.cell? ⟨g, i, none⟩ = some (.int .u32 ((l[i] : Nat) : Int)) ∧ w.frozen? ⟨g, i, none⟩ = false ∧ ∀ y : Nat, OwnW (w.setCell ⟨g, i, none⟩ (.int .u32 (y : Int))) B (.slice A n c) (l.set i y) := by
  rcases h.2 with ⟨_, h0⟩ | ⟨g, cap, cur, hv, hb, hh, hc, hm, hs, ht⟩
  · omega
  · injection hv with e1 e2 e3
    subst e1 e2 e3
    have hk : Blk w g 163 cur := hh
    rw [Nat.mul_one] at ht
    have hcur : cur.toList[i]? = some (wv l[i]) := by
      have h1 : (cur.toList.take l.length)[i]? = (l.map wv)[i]? := by rw [ht]
      rwa [List.getElem?_take, if_pos hi, List.getElem?_map, List.getElem?_eq_getElem hi] at h1
    refine ⟨g, rfl, hb, hk.lt, ?_, hk.frozen i, fun y => ⟨by rw [List.length_map, List.length_set, Nat.mul_one], .inr ⟨g, c, cur.setIfInBounds i (wv y), by rw [List.length_set], hb, ?_, ?_, hm, ?_, ?_⟩⟩⟩
    · rw [hk.cell i, ← Array.getElem?_toList, hcur]; rfl
    · exact hk.set_ i (wv y)
    · rw [List.length_set]; exact hc
    · rw [Array.size_setIfInBounds]; exact hs
    · rw [Nat.mul_one, List.length_set, Array.toList_setIfInBounds, List.take_set, ht, List.map_set]
theorem OwnW.kept' {w w' : World} {B : Nat} {v : Value} {l : List Nat} (h : OwnW w B v l) (hb : Below w.heap.size w w') : OwnW w' B v l := by
  refine ⟨h.1, ?_⟩
  rcases h.2 with h1 | ⟨g, cap, cur, hv, hg, hh, hr⟩
  · exact .inl h1
  · exact .inr ⟨g, cap, cur, hv, hg, (hb.block g (Array.getElem?_eq_some_iff.1 hh).1).trans hh, hr⟩
theorem grown_of {w wr w' : World} {g : Nat} (h : Below w.heap.size w wr) (hg : wr.grownBy w' (some g)) : w.grownBy w' (some g) := by
  refine ⟨hg.os.trans h.os, hg.tape.trans h.tape, hg.output.trans h.output, Nat.le_trans h.size hg.size, fun i hi hne => ?_⟩
  exact (hg.block i (Nat.lt_of_lt_of_le hi h.size) hne).trans (h.block i hi)
theorem grown_below {w w' : World} {g : Nat} (h : Below w.heap.size w w') : w.grownBy w' (some g) := ⟨h.os, h.tape, h.output, h.size, fun i hi _ => h.block i hi⟩
/-- what digits are made -/
def StrSet (w : World) (g : Nat) (neg : Bool) (t : List UInt8) (e : Ending) (w' : World) : Prop :=
  ∃ p b, e = .returned (.tuple #[.pointer p, .bool b]) ∧ w.grownBy w' (some g) ∧ (AllDig t → p = some ⟨g, 0, none⟩ ∧ b = true ∧ IntB w' g (sgn neg (dv t)))
theorem drop_bytes (t : ByteArray) (k : Nat) (hk : k ≤ t.size) : (t.extract k t.size).data.toList = t.data.toList.drop k ∧ (t.extract k t.size).size = t.size - k := by
  refine ⟨?_, by rw [ByteArray.size_extract]; omega⟩
  rw [ByteArray.data_extract, Array.toList_extract, List.extract_eq_take_drop]
  rw [List.take_of_length_le]
  rw [List.length_drop, show t.data.toList.length = t.size from Array.length_toList]
  exact Nat.le_refl _
theorem take_bytes (t : ByteArray) (k : Nat) (hk : k ≤ t.size) : (t.extract 0 k).data.toList = t.data.toList.take k ∧ (t.extract 0 k).size = k := by
  refine ⟨?_, by rw [ByteArray.size_extract]; omega⟩
  rw [ByteArray.data_extract, Array.toList_extract, List.extract_eq_take_drop, List.drop_zero]
  rfl
set_option maxRecDepth 100000 in
set_option maxHeartbeats 2000000 in
theorem setstr_core {w : World} {g : Nat} {s : ByteArray} {neg : Bool} {v u3 u4 u5 u6 u7 u9 u10 u11 u12 u13 u14 u15 u16 u17 u18 u19 u20 u21 u22 u23 u24 u25 u26 u27 u28 u29 u30 u31 u32 u33 u34 u35 u36 u37 u38 u39 u40 u41 u42 u43 u44 u45 u46 u47 u48 u49 u50 u51 u52 u53 u54 u55 u56 u57 u58 u59 u60 u61 u62 u63 u64 u65 u66 u67 u68 u69 u70 u71 u72 u73 u74 u75 u76 u77 u78 u79 u80 u81 u82 u83 u84 u85 u86 u87 u88 u89 u90 u91 u92 u93 u94 u95 u96 u97 u98 u99 u100 u101 u102 : Value} {Q : Ending → World → Prop} (hz : IntS w g) (hl : s.size ≤ 100000000) (hQ0 : ∀ e w', StrSet w g neg s.data.toList e w' → Q e w') :
    (codeRest 4 (bodyOf Tryz.f105)).wp Tryz.prog (bodyPost Tryz.prog Tryz.f105 Q) ⟨#[.pointer (some ⟨g, 0, none⟩), .string s, v, u3, u4, u5, u6, u7, .bool neg, u9, u10, u11, u12, u13, u14, u15, u16, u17, u18, u19, u20, u21, u22, u23, u24, u25, u26, u27, u28, u29, u30, u31, u32, u33, u34, u35, u36, u37, u38, u39, u40, u41, u42, u43, u44, u45, u46, u47, u48, u49, u50, u51, u52, u53, u54, u55, u56, u57, u58, u59, u60, u61, u62, u63, u64, u65, u66, u67, u68, u69, u70, u71, u72, u73, u74, u75, u76, u77, u78, u79, u80, u81, u82, u83, u84, u85, u86, u87, u88, u89, u90, u91, u92, u93, u94, u95, u96, u97, u98, u99, u100, u101, u102], []⟩ w := by
  conv => enter [2]; dsimp only [codeRest, bodyOf, Tryz.f105, Option.getD_some]
  obtain ⟨l, hle⟩ : ∃ l, l = s.data.toList := ⟨_, rfl⟩
  have hll : l.length = s.size := by rw [hle]; exact Array.length_toList
  rw [← hle] at hQ0
  have hQ := Lib.hid hQ0
  clear hQ0
  have kc := fun (W : World) (s : ByteArray) => Lib.run_convert_string_bytes (P := Tryz.prog) W 9 97 5 s Tryz.underlying9 Tryz.underlying97 Tryz.underlying5
  have Hl := Lib.hid (And.intro hll hz)
  have Hll := Lib.hid hl
  clear hll hz
  go_wp2_with fail
  go_loopg [1, 9] s.size (fun k sv lv wr => ∃ (T : ByteArray) (A : Option Addr) (n c j tn : Nat) (L : List Nat), sv = .string T ∧ lv = .slice A n c ∧ T.size = tn ∧ tn ≤ 100000000 ∧ Hid (k = tn) ∧ Hid (tn = l.length - j ∧ j ≤ l.length ∧ T.data.toList = l.drop j) ∧ Hid (OwnW wr w.heap.size (.slice A n c) L) ∧ Hid (Below w.heap.size w wr) ∧ n ≤ 100000000 ∧ Hid (AllDig (l.take j) ∧ Wd L ∧ val L = dv (l.take j) ∧ L.length ≤ j))
  case atStart => exact ⟨s, none, 0, 0, 0, s.size, [], rfl, rfl, rfl, hl, Lib.hid rfl, Lib.hid ⟨by rw [Hl.out.1]; rfl, Nat.zero_le _, by rw [List.drop_zero, hle]⟩, Lib.hid (OwnW.nil _ _), Lib.hid (Below.refl _ _), by omega, Lib.hid ⟨fun b hb => (by simp at hb), wd_nil, rfl, Nat.le_refl _⟩⟩
  case round =>
    obtain ⟨T, A, n, c, j, tn, L, rfl, rfl, htn, htl, Hk, HT, Ho, Hb, hnl, HL⟩ := hrel
    have Htn := Lib.hid htn
    clear hle hl
    rcases Nat.eq_zero_or_pos tn with h0 | h0
    case inl =>
      subst h0
      have hj : j = l.length := by have := HT.out; omega
      subst hj
      have hi := is_any neg (Hl.out.2.below Hb.out) Ho.out.reads (Nat.le_refl _) Ho.out.len.1 Ho.out.len.2.1 Ho.out.len.2.2 HL.out.2.1
      rw [HL.out.2.2.1, List.take_length] at hi
      have HI := Lib.hid hi
      clear hi
      go_wp2_with fail
      refine HI.out.mono ?_
      rintro e W' ⟨rfl, hi2, hg2⟩
      go_wp2_with fail
      exact hQ.out _ _ ⟨some ⟨g, 0, none⟩, true, rfl, grown_of Hb.out hg2, fun _ => ⟨rfl, rfl, hi2⟩⟩
    case inr =>
      obtain ⟨N, hN⟩ : ∃ N : Nat, N = if tn < 9 then tn else 9 := ⟨_, rfl⟩
      have hN9 : N ≤ 9 := by rw [hN]; split <;> omega
      have hNt : N ≤ tn := by rw [hN]; split <;> omega
      have hN0 : 0 < N := by rw [hN]; split <;> omega
      have qN : (if (tn : Int) < 9 then (tn : Int) else 9) = (N : Int) := by rw [hN]; split <;> split <;> omega
      obtain ⟨C, hC⟩ : ∃ C, T.extract 0 N = C := ⟨_, rfl⟩
      obtain ⟨T', hT'⟩ : ∃ T', T.extract N tn = T' := ⟨_, rfl⟩
      have hCb := take_bytes T N (by omega)
      have hTb := drop_bytes T N (by omega)
      rw [htn, hT'] at hTb
      rw [hC] at hCb
      obtain ⟨cs, hcs⟩ : ∃ cs, cs = (l.drop j).take N := ⟨_, rfl⟩
      rw [HT.out.2.2, ← hcs] at hCb
      rw [HT.out.2.2, List.drop_drop] at hTb
      have hcl : cs.length = N := by rw [hcs, List.length_take, List.length_drop]; have := HT.out; omega
      have hCs := hCb.2
      have HC := Lib.hid (And.intro hCb.1 (And.intro hTb (And.intro hcs hcl)))
      have Hh := Lib.hid (And.intro hN9 (And.intro hNt hN0))
      clear hCb hTb hcs hcl hN
      go_wp2_with fail
      have Hb1 := Lib.hid (Hb.out.trans ((bytes_below wr C).mono Hb.out.size))
      have Ho1 := Lib.hid (Ho.out.kept' (bytes_below wr C))
      have hrd := bytes_reads wr C
      rw [HC.out.1] at hrd
      have Hrd := Lib.hid hrd
      clear hrd hC Ho Hb kc hCs qN
      generalize Lib.bytesWorld wr 5 C = W1 at *
      go_loopg [11, 12, 48] N (fun k bv av iv wi => ∃ (i P D : Nat), bv = .int .u64 (P : Int) ∧ av = .int .u64 (D : Int) ∧ iv = .int .i64 (i : Int) ∧ Hid (k = N - i) ∧ i ≤ N ∧ P ≤ 1000000000 ∧ D ≤ 999999999 ∧ Hid (P = 10 ^ i ∧ D = dv (cs.take i) ∧ AllDig (cs.take i)) ∧ W1 = wi)
      case atStart => exact ⟨0, 1, 0, rfl, rfl, rfl, Lib.hid rfl, Nat.zero_le _, by omega, by omega, Lib.hid ⟨rfl, rfl, fun b hb => (by simp at hb)⟩, rfl⟩
      case round =>
        obtain ⟨i, P, D, rfl, rfl, rfl, Hki, hiN, hP, hD, HP, rfl⟩ := hrel
        by_cases hin : i < N
        · have hil : i < cs.length := by rw [HC.out.2.2.2]; exact hin
          obtain ⟨ad, e, _, c1⟩ := ReadsB.at_ Hrd.out hil
          injection e with e
          subst e
          rw [Addr.add_lit, Nat.zero_add] at c1
          have hmem : cs[i] ∈ cs := List.getElem_mem hil
          have hsub : ∀ b, b ∈ cs → b ∈ l := fun b hb => by
            rw [HC.out.2.2.1] at hb
            exact List.mem_of_mem_drop (List.mem_of_mem_take hb)
          have hadl : AllDig l → IsDig cs[i] := fun h => h _ (hsub _ hmem)
          have Hd1 := Lib.hid (And.intro (dv_take hil) (And.intro (fun h => allDig_take hil HP.out.2.2 h) hadl))
          clear hmem hadl hsub
          have Hpl := Lib.hid (fun h : IsDig cs[i] => dv_lt (i + 1) (cs.take (i + 1)) (by rw [List.length_take]; omega) (allDig_take hil HP.out.2.2 h))
          have hten := ten_le (n := i + 1) (by omega)
          have Hten := Lib.hid hten
          have hu8 := UInt8.toNat_lt cs[i]
          unfold IsDig at Hd1 Hpl
          generalize cs[i].toNat = y at *
          have hini : (i : Int) < (N : Int) := by omega
          clear hten hil
          by_cases hdg : 48 ≤ y ∧ y ≤ 57
          · have Hdg := Lib.hid hdg
            obtain ⟨g1, g2⟩ := hdg
            have g3 : (48 : Int) ≤ (y : Int) := by omega
            have g4 : (y : Int) ≤ 57 := by omega
            go_wp2_with fail
            go_roundg (N - (i + 1))
            case measure => have := Hki.out; omega
            case rel =>
              refine ⟨i + 1, P * 10, 10 * D + (y - 48), by simp, ?_, rfl, Lib.hid rfl, by omega, ?_, ?_, Lib.hid ⟨by rw [HP.out.1, Nat.pow_succ], by rw [Hd1.out.1, HP.out.2.1], Hd1.out.2.1 Hdg.out⟩, rfl⟩
              · congr 1; omega
              · rw [HP.out.1, ← Nat.pow_succ]; exact Hten.out
              · have h1 := Hpl.out Hdg.out
                rw [Hd1.out.1, ← HP.out.2.1] at h1
                have := Hten.out
                omega
          · have Hdg := Lib.hid hdg
            rcases Nat.lt_or_ge y 48 with g1 | g1
            · have g3 : (y : Int) < 48 := by omega
              clear hdg
              go_wp2_with fail
              exact hQ.out _ _ ⟨none, false, rfl, grown_below Hb1.out, fun h => absurd (Hd1.out.2.2 h) Hdg.out⟩
            · have g3 : (48 : Int) ≤ (y : Int) := by omega
              have g4 : (57 : Int) < (y : Int) := by omega
              clear hdg
              go_wp2_with fail
              exact hQ.out _ _ ⟨none, false, rfl, grown_below Hb1.out, fun h => absurd (Hd1.out.2.2 h) Hdg.out⟩
        · have hiN' : i = N := by omega
          subst hiN'
          have hiq : (i : Int) ≤ (i : Int) := by omega
          have Hdl := Lib.hid (show P = 10 ^ i ∧ D = dv cs ∧ AllDig cs by
            have h1 := HP.out
            rw [List.take_of_length_le (by rw [HC.out.2.2.2]; exact Nat.le_refl _)] at h1
            exact h1)
          have hnL := Ho1.out.len.1
          have HnL := Lib.hid hnL
          clear HP Hrd hin hiN hnL
          go_wp2_with fail
          go_loopg [12, 15, 69] n (fun k av xv iv wi => ∃ (q add : Nat) (L2 : List Nat), av = .int .u64 (add : Int) ∧ iv = .int .i64 (q : Int) ∧ Hid (k = n - q) ∧ q ≤ n ∧ add ≤ 999999999 ∧ Hid (OwnW wi w.heap.size (.slice A n c) L2) ∧ Hid (Below w.heap.size w wi) ∧ Hid (L2.length = L.length ∧ Wd L2 ∧ val (L2.take q) + 4294967296 ^ q * add = val (L.take q) * P + D ∧ ∀ t, q ≤ t → L2[t]? = L[t]?))
          case atStart => exact ⟨0, D, L, rfl, rfl, Lib.hid rfl, Nat.zero_le _, hD, Ho1, Hb1, Lib.hid ⟨rfl, HL.out.2.1, by simp [val_nil], fun t _ => rfl⟩⟩
          case round =>
            obtain ⟨q, add, L2, rfl, rfl, Hkq, hqn, hadd, Ho2, Hb2, HL2⟩ := hrel
            by_cases hqn2 : q < n
            · have hqL : q < L.length := by rw [← HnL.out]; exact hqn2
              have hq2 : q < L2.length := by rw [HL2.out.1]; exact hqL
              obtain ⟨gg, rfl, hgB, hgl, c1, f1, hset⟩ := Ho2.out.set_ hq2
              have hx : L2[q] = L[q] := by
                have := HL2.out.2.2.2 q (Nat.le_refl _)
                rw [List.getElem?_eq_getElem hq2, List.getElem?_eq_getElem hqL] at this
                injection this
              have E1 := Lib.hid (val_take_succ hqL)
              have w1 := wd_get HL.out.2.1 _ hqL
              rw [hx] at c1
              generalize L[q] = x at *
              obtain ⟨hb1', hb2'⟩ := mul_bounds (add := add) (x := x) (by_ := P) hadd w1 hP
              have e1 : ((add : Int) + (x : Int) * (P : Int)) = ((add + x * P : Nat) : Int) := by rw [Int.natCast_add, Int.natCast_mul]
              have hxp : x * P ≤ 4294967295999999999 := by omega
              have e0 : (x : Int) * (P : Int) = ((x * P : Nat) : Int) := (Int.natCast_mul x P).symm
              have e2 : IntKind.u64.wrap ((x : Int) * (P : Int)) = (x : Int) * (P : Int) := by rw [e0]; exact IntWalk.u64_in _ (by omega)
              have e3 : IntKind.u64.wrap ((add : Int) + (x : Int) * (P : Int)) = (((add + x * P : Nat)) : Int) := by rw [e1]; exact IntWalk.u64_in _ (by omega)
              obtain ⟨Z, hZ⟩ : ∃ Z, Z = add + x * P := ⟨_, rfl⟩
              have e4 : (add : Int) + (x : Int) * (P : Int) = (Z : Int) := by rw [hZ]; exact e1
              rw [← hZ] at hb1' hb2' e3
              have HZ := Lib.hid (And.intro hZ hset)
              have Hqq := Lib.hid (And.intro hqL hq2)
              have hqi : (q : Int) < (n : Int) := by omega
              clear e0 e1 hxp hZ hset hx hqL hq2 hqn2
              go_wp2_with fail
              rw [show (Z : Int) / 4294967296 = ((Z / 4294967296 : Nat) : Int) by omega, show (Z : Int) % 4294967296 = ((Z % 4294967296 : Nat) : Int) by omega]
              go_roundg (n - (q + 1))
              case measure => have := Hkq.out; omega
              case rel =>
                refine ⟨q + 1, Z / 4294967296, L2.set q (Z % 4294967296), rfl, rfl, Lib.hid rfl, by omega, hb2', Lib.hid (HZ.out.2 _), Lib.hid (Hb2.out.setCell hgB _), Lib.hid ⟨by rw [List.length_set]; exact HL2.out.1, wd_set HL2.out.2.1 _ _ (Nat.mod_lt _ (by decide)), ?_, fun t ht => ?_⟩⟩
                · rw [val_take_set Hqq.out.2, E1.out, HZ.out.1, Nat.pow_succ]
                  exact mul_step HL2.out.2.2.1
                · rw [List.getElem?_set_ne (by omega)]
                  exact HL2.out.2.2.2 t (by omega)
            · have hqn' : q = n := by omega
              subst hqn'
              have hfin : val L2 + 4294967296 ^ L2.length * add = dv (l.take (j + i)) := by
                have h1 := HL2.out.2.2.1
                rw [List.take_of_length_le (by rw [HL2.out.1, HnL.out]; exact Nat.le_refl _), List.take_of_length_le (by rw [HnL.out]; exact Nat.le_refl _), HL.out.2.2.1, Hdl.out.1, Hdl.out.2.1] at h1
                rw [HL2.out.1, ← HnL.out, h1, ← dv_app _ i cs HC.out.2.2.2, HC.out.2.2.1, ← List.take_add]
              have hdig : AllDig (l.take (j + i)) := by
                rw [List.take_add, ← HC.out.2.2.1]
                exact allDig_app.2 ⟨HL.out.1, Hdl.out.2.2⟩
              have Hfin := Lib.hid (And.intro hfin hdig)
              have HT' : Hid (tn - i = l.length - (j + i) ∧ j + i ≤ l.length ∧ T'.data.toList = l.drop (j + i) ∧ T'.size = tn - i) := by
                refine Lib.hid ⟨?_, ?_, ?_, ?_⟩
                · have := HT.out; omega
                · have := HT.out; omega
                · rw [HC.out.2.1.1]
                · exact HC.out.2.1.2
              clear hfin hdig hqn hqn2
              rcases Nat.eq_zero_or_pos add with ha | ha
              · subst ha
                go_wp2_with fail
                go_roundg (tn - i)
                case measure => have := Hk.out; omega
                case rel => exact ⟨T', A, q, c, j + i, tn - i, L2, rfl, rfl, HT'.out.2.2.2, by omega, Lib.hid rfl, Lib.hid ⟨HT'.out.1, HT'.out.2.1, HT'.out.2.2.1⟩, Ho2, Hb2, hnl, Lib.hid ⟨Hfin.out.2, HL2.out.2.1, by have := Hfin.out.1; rwa [Nat.mul_zero, Nat.add_zero] at this, by have := HL2.out.1; have := HL.out.2.2.2; omega⟩⟩
              · have hai : (0 : Int) < (add : Int) := by omega
                have Ha := Lib.hid ha
                have hL2l : L2.length ≤ 100000000 := by rw [HL2.out.1, ← HnL.out]; exact hnl
                have hgle : w.heap.size ≤ wr.heap.size := Hb2.out.size
                clear ha
                go_wp2_with (at_builtin; refine wpW_push rfl (.tmp 91) (.tmp 94) rfl w.heap.size _ L2 Ho2.out rfl (y := add) rfl rfl (by omega) hgle ?_; intro A3 n3 c3 W3 ho3 hkeep _; have Ho3 := Lib.hid ho3; have Hb3 := Lib.hid (hkeep w Hb2.out); clear ho3 hkeep)
                go_roundg (tn - i)
                case measure => have := Hk.out; omega
                case rel =>
                  refine ⟨T', A3, n3, c3, j + i, tn - i, L2 ++ [add], rfl, rfl, HT'.out.2.2.2, by omega, Lib.hid rfl, Lib.hid ⟨HT'.out.1, HT'.out.2.1, HT'.out.2.2.1⟩, Ho3, Hb3, ?_, Lib.hid ⟨Hfin.out.2, wd_append.2 ⟨HL2.out.2.1, wd_cons.2 ⟨by omega, wd_nil⟩⟩, by rw [val_snoc]; exact Hfin.out.1, ?_⟩⟩
                  · have h1 := Ho3.out.len.1
                    rw [List.length_append] at h1
                    have h2 := HL2.out.1
                    have h3 := HL.out.2.2.2
                    have h4 := HT.out
                    have h5 := Hl.out.1
                    have h6 := Hll.out
                    simp only [List.length_cons, List.length_nil] at h1
                    omega
                  · rw [List.length_append]
                    have h2 := HL2.out.1
                    have h3 := HL.out.2.2.2
                    have h4 := Hh.out.2.2
                    simp only [List.length_cons, List.length_nil]
                    omega
def signOf (l : List UInt8) : Bool := l.head? == some 45
def bodyOfText (l : List UInt8) : List UInt8 := if l.head? = some 45 ∨ l.head? = some 43 then l.tail else l
/-- what a text is made -/
def TextSet (w : World) (g : Nat) (l : List UInt8) (e : Ending) (w' : World) : Prop :=
  ∃ p b, e = .returned (.tuple #[.pointer p, .bool b]) ∧ w.grownBy w' (some g) ∧ (bodyOfText l ≠ [] → AllDig (bodyOfText l) → p = some ⟨g, 0, none⟩ ∧ b = true ∧ IntB w' g (sgn (signOf l) (dv (bodyOfText l))))
theorem head_of {s : ByteArray} (h : 0 < s.size) : s.data.toList.head? = some s[0] := by
  have hl : s.data.toList.length = s.size := Array.length_toList
  rw [List.head?_eq_getElem?, List.getElem?_eq_getElem (by omega)]
  rfl
set_option maxRecDepth 100000 in
set_option maxHeartbeats 1000000 in
theorem setstr_neg {w : World} {g : Nat} {s : ByteArray} {v : Value} (hz : IntS w g) (hl : s.size ≤ 100000000) (h0 : 0 < s.size) (hc : s[0] = 45) :
    Calls Tryz.prog 105 #[.pointer (some ⟨g, 0, none⟩), .string s, v] w (TextSet w g s.data.toList) := by
  have hb := drop_bytes s 1 (by omega)
  have hd : s[0].toNat = 45 := by rw [hc]; rfl
  have hh := head_of h0
  rw [hc] at hh
  obtain ⟨t, ht⟩ : ∃ t, s.extract 1 s.size = t := ⟨_, rfl⟩
  rw [ht] at hb
  have htl : t.size ≤ 100000000 := by omega
  have HB := Lib.hid (show signOf s.data.toList = true ∧ bodyOfText s.data.toList = t.data.toList by
    unfold signOf bodyOfText
    rw [hh, hb.1, List.drop_one]
    exact ⟨rfl, if_pos (.inl rfl)⟩)
  obtain ⟨q1, q2⟩ := str_facts h0
  clear hb hc hh
  go_enter Tryz.func105, Tryz.ntmps105
  go_upto_if 36 with fail
  go_cut [] (fun wx => w = wx)
  case first =>
    by_cases h9 : t.size = 0
    · rw [(str_none h9).1]
      go_wp2_with fail
      refine bodyPost_ret (v := .tuple #[.pointer none, .bool false]) (by simp [results, Tryz.results105, go_sem]) rfl ?_
      exact ⟨none, false, rfl, grown_below (Below.refl _ _), fun h => absurd (by rw [HB.out.2]; exact List.eq_nil_of_length_eq_zero (by rw [show t.data.toList.length = t.size from Array.length_toList]; exact h9)) h⟩
    · rw [(str_facts (Nat.pos_of_ne_zero h9)).1]
      go_wp2_with fail
      go_meet
      case rel => rfl
  case rest =>
    go_step
    subst hcut
    refine setstr_core (neg := true) (s := t) hz (by omega) ?_
    rintro e w' ⟨p, b, he, hg, hok⟩
    exact ⟨p, b, he, hg, by rw [HB.out.1, HB.out.2]; exact fun _ => hok⟩
set_option maxRecDepth 100000 in
set_option maxHeartbeats 1000000 in
theorem setstr_plus {w : World} {g : Nat} {s : ByteArray} {v : Value} (hz : IntS w g) (hl : s.size ≤ 100000000) (h0 : 0 < s.size) (hc : s[0] = 43) :
    Calls Tryz.prog 105 #[.pointer (some ⟨g, 0, none⟩), .string s, v] w (TextSet w g s.data.toList) := by
  have hb := drop_bytes s 1 (by omega)
  have hd : s[0].toNat = 43 := by rw [hc]; rfl
  have hh := head_of h0
  rw [hc] at hh
  obtain ⟨t, ht⟩ : ∃ t, s.extract 1 s.size = t := ⟨_, rfl⟩
  rw [ht] at hb
  have htl : t.size ≤ 100000000 := by omega
  have HB := Lib.hid (show signOf s.data.toList = false ∧ bodyOfText s.data.toList = t.data.toList by
    unfold signOf bodyOfText
    rw [hh, hb.1, List.drop_one]
    exact ⟨rfl, if_pos (.inr rfl)⟩)
  obtain ⟨q1, q2⟩ := str_facts h0
  clear hb hc hh
  go_enter Tryz.func105, Tryz.ntmps105
  go_upto_if 36 with fail
  go_cut [] (fun wx => w = wx)
  case first =>
    by_cases h9 : t.size = 0
    · rw [(str_none h9).1]
      go_wp2_with fail
      refine bodyPost_ret (v := .tuple #[.pointer none, .bool false]) (by simp [results, Tryz.results105, go_sem]) rfl ?_
      exact ⟨none, false, rfl, grown_below (Below.refl _ _), fun h => absurd (by rw [HB.out.2]; exact List.eq_nil_of_length_eq_zero (by rw [show t.data.toList.length = t.size from Array.length_toList]; exact h9)) h⟩
    · rw [(str_facts (Nat.pos_of_ne_zero h9)).1]
      go_wp2_with fail
      go_meet
      case rel => rfl
  case rest =>
    go_step
    subst hcut
    refine setstr_core (neg := false) (s := t) hz (by omega) ?_
    rintro e w' ⟨p, b, he, hg, hok⟩
    exact ⟨p, b, he, hg, by rw [HB.out.1, HB.out.2]; exact fun _ => hok⟩
set_option maxRecDepth 100000 in
set_option maxHeartbeats 1000000 in
theorem setstr_bare {w : World} {g : Nat} {s : ByteArray} {v : Value} (hz : IntS w g) (hl : s.size ≤ 100000000) (h0 : 0 < s.size) (hc : s[0] ≠ 45) (hc2 : s[0] ≠ 43) :
    Calls Tryz.prog 105 #[.pointer (some ⟨g, 0, none⟩), .string s, v] w (TextSet w g s.data.toList) := by
  have hh := head_of h0
  have HB := Lib.hid (show signOf s.data.toList = false ∧ bodyOfText s.data.toList = s.data.toList by
    unfold signOf bodyOfText
    rw [hh]
    refine ⟨beq_eq_false_iff_ne.2 (fun h => hc (by injection h)), if_neg (fun h => ?_)⟩
    rcases h with h | h
    · exact hc (by injection h)
    · exact hc2 (by injection h))
  obtain ⟨q1, q2⟩ := str_facts h0
  have hy1 : s[0].toNat ≠ 45 := fun h => hc (UInt8.toNat_inj.1 h)
  have hy2 : s[0].toNat ≠ 43 := fun h => hc2 (UInt8.toNat_inj.1 h)
  generalize hy : s[0].toNat = y at *
  have z1 : ((y : Int) == 45) = false := beq_eq_false_iff_ne.2 (by omega)
  have z2 : ((y : Int) == 43) = false := beq_eq_false_iff_ne.2 (by omega)
  clear hc hc2 hh
  go_enter Tryz.func105, Tryz.ntmps105
  go_upto_if 36 with fail
  go_cut [] (fun wx => w = wx)
  case first =>
    by_cases h9 : s.size = 0
    · exact absurd h9 (by omega)
    · go_wp2_with fail
      go_meet
      case rel => rfl
  case rest =>
    go_step
    subst hcut
    refine setstr_core (neg := false) (s := s) hz (by omega) ?_
    rintro e w' ⟨p, b, he, hg, hok⟩
    exact ⟨p, b, he, hg, by rw [HB.out.1, HB.out.2]; exact fun _ => hok⟩
theorem setstr_none {w : World} {g : Nat} {v : Value} :
    Calls Tryz.prog 105 #[.pointer (some ⟨g, 0, none⟩), .string ⟨#[]⟩, v] w (TextSet w g [] ) := by
  go_enter Tryz.func105, Tryz.ntmps105
  go_wp2_with fail
  refine bodyPost_ret (v := .tuple #[.pointer none, .bool false]) (by simp [results, Tryz.results105, go_sem]) rfl ?_
  exact ⟨none, false, rfl, grown_below (Below.refl _ _), fun h => absurd rfl h⟩
theorem setstr_any {w : World} {g : Nat} {s : ByteArray} {v : Value} (hz : IntS w g) (hl : s.size ≤ 100000000) :
    Calls Tryz.prog 105 #[.pointer (some ⟨g, 0, none⟩), .string s, v] w (TextSet w g s.data.toList) := by
  rcases Nat.eq_zero_or_pos s.size with h | h
  · have hl : s.data.toList.length = s.size := Array.length_toList
    obtain rfl := str_empty (List.eq_nil_of_length_eq_zero (show s.data.toList.length = 0 by omega))
    exact setstr_none
  · by_cases h1 : s[0] = 45
    · exact setstr_neg hz hl h h1
    · by_cases h2 : s[0] = 43
      · exact setstr_plus hz hl h h2
      · exact setstr_bare hz hl h h1 h2
end Go.Proofs.YtebpggfccljagaaGreatDoor

/- whole.Shift (printed by gen_shift.py). -/
namespace Go.Proofs.YtebpggfccljagaaGreatDoor
open Go.RowKit
open Wh
set_option linter.unusedSimpArgs false

/-- a number shifted -/
def shf (x n : Int) : Int := if 0 ≤ n then x * 2 ^ n.toNat else x / 2 ^ (-n).toNat
theorem shf_zero (n : Int) : shf 0 n = 0 := by
  unfold shf
  by_cases h : 0 ≤ n
  · rw [if_pos h, Int.zero_mul]
  · rw [if_neg h, Int.zero_ediv]
theorem shr_far {x : Int} {a n : Nat} (h : x.natAbs < 2 ^ a) (hn : a ≤ n) : x / 2 ^ n = if x < 0 then -1 else 0 := by
  have h1 : (2 : Nat) ^ a ≤ 2 ^ n := Nat.pow_le_pow_right (by decide) hn
  have hp := pow2_pos n
  have hc := pow2_cast n
  generalize (2 : Int) ^ n = P at *
  generalize (2 : Nat) ^ n = Q at *
  by_cases h0 : x < 0
  · rw [if_pos h0]
    exact ((Int.ediv_emod_unique (r := x + P) hp).2 ⟨by omega, by omega, by omega⟩).1
  · rw [if_neg h0]
    exact Int.ediv_eq_zero_of_lt (by omega) (by omega)
theorem bl_shl {m n k : Nat} (h : bl m ≤ k) : bl (m * 2 ^ n) ≤ k + n := by
  refine bl_lt.2 ?_
  rw [Nat.pow_add]
  exact Nat.mul_lt_mul_of_pos_right (bl_lt.1 h) (Nat.two_pow_pos n)
theorem bl_shl_ge {m n k : Nat} (h0 : 0 < m) (h : bl (m * 2 ^ n) ≤ k) : n < k := by
  have h1 := bl_lt.1 h
  have h2 : (2 : Nat) ^ n ≤ m * 2 ^ n := Nat.le_mul_of_pos_left _ h0
  exact (Nat.pow_lt_pow_iff_right (by decide)).1 (Nat.lt_of_le_of_lt h2 h1)
theorem shl_abs (x : Int) (n : Nat) : (x * 2 ^ n).natAbs = x.natAbs * 2 ^ n := by rw [Int.natAbs_mul, pow2_abs]
theorem shf_big {x n : Int} {k : Nat} (h0 : x ≠ 0) (hn : (k : Int) < n) : ¬ bl (shf x n).natAbs ≤ k := by
  intro h
  unfold shf at h
  rw [if_pos (by omega), shl_abs] at h
  have := bl_shl_ge (by omega) h
  omega
theorem shf_far {x n : Int} {k a : Nat} (hx : bl x.natAbs ≤ k) (hn : n < -(a : Int)) (ha : k ≤ a) : x / 2 ^ a = shf x n := by
  unfold shf
  rw [if_neg (by omega), shr_far (bl_lt.1 hx) ha, shr_far (bl_lt.1 hx) (show k ≤ (-n).toNat by omega)]
theorem tells_form {W w5 : World} {z : Int} {e : Ending} (h : Tells W z e w5) : ∃ (sn : Bool) (bn : ByteArray) (cd : Int), e = .returned (.tuple #[.agg #[.bool sn, .string bn], .int .i64 cd]) ∧ Below W.heap.size W w5 ∧ ∀ w w' (ok : Prop), ok → Below w.heap.size w w' → Ans w ok z (.returned (.tuple #[.agg #[.bool sn, .string bn], .int .i64 cd])) w' := by
  obtain ⟨t1, t2, hb⟩ := h
  by_cases hf : fits z
  · exact ⟨_, _, 0, t1 hf, hb, fun w w' ok hok hb => ⟨fun _ _ => rfl, fun _ h => absurd hf h, fun h => absurd hok h, hb⟩⟩
  · exact ⟨_, _, 4, t2 hf, hb, fun w w' ok hok hb => ⟨fun _ h => absurd h hf, fun _ _ => rfl, fun h => absurd hok h, hb⟩⟩
end Go.Proofs.YtebpggfccljagaaGreatDoor
