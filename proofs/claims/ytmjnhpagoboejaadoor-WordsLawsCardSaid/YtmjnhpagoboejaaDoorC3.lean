import Derived.Shelf.Strings.Builder1
import Derived.Shelf.Strings.Builder2
import Derived.Shelf.Strings.OnBuilder
import Derived.Shelf.Strconv.Itoa0
import Derived.Shelf.Strconv.Itoa1
import Derived.Shelf.LaysM
import Derived.Shelf.Strconv.Itoa2
import Derived.Shelf.Strconv.Itoa3
import Derived.Shelf.Strings.Search1
import Derived.Shelf.Strings.Search2
import Derived.Shelf.Strings.Search3
import Derived.Shelf.Strings.Count
import Derived.Shelf.Strings.Shaped
import Derived.Shelf.Bits.Mul64
import Derived.Shelf.Unicode.DecodeSlow
import Derived.Test.YtmjnhpagoboejaaDoorProg
import Derived.Test.YtmjnhpagoboejaaDoorC2
import Derived.Lib.AppendIntMem
import Derived.Lib.Join
import Derived.Lib.ItoaLen
import Derived.Test.YtmjnhpagoboejaaDoorC1
import Derived.ArgAppend
import Derived.BigQuiet
import Derived.Test.YtmjnhpagoboejaaDoorCards
import Derived.Test.YtmjnhpagoboejaaDoorTie
import Derived.Deep.DeepHandedRow
import Derived.Lib.LaidTab
import Derived.ChangeSlices
import Derived.LaidSub
import Derived.MakeChecks
import Derived.Deep.Matrix
import Derived.WalkKit
import Derived.WalkLawsBesides
import Derived.WalkSpells
import Derived.Handy
import Derived.Deep.LoopGhost
import Derived.Lib.AppendStr
import Derived.Laws.BytesArg
/- The library's contracts that these texts use, laid at this dump (written by the kit's lay-shelf and lay-plain, pruned by mkshelf.py). -/
namespace Go.Proofs
open Go.Shelf
def Tryd.lays156_ren : Go.Shelf.Ren := ⟨fun | 156 => 91 | 165 => 98 | 166 => 99 | 169 => 100 | 240 => 110 | 241 => 111 | 276 => 123 | 277 => 124 | n => n, fun | 31 => 95 | 9 => 9 | 3 => 3 | 4 => 4 | 0 => 0 | 20 => 20 | 72 => 115 | 76 => 99 | 70 => 113 | 37 => 107 | 75 => 98 | 127 => 127 | 164 => 143 | 5 => 5 | 80 => 117 | n => n, fun | n => n⟩
theorem Tryd.lays156 : Go.Proofs.Lays.n156 Tryd.prog Tryd.lays156_ren := {
  mixed := by kernel_rfl
  f156 := Tryd.func91.trans (congrArg some (by kernel_rfl))
  f165 := Tryd.func98.trans (congrArg some (by kernel_rfl))
  f166 := Tryd.func99.trans (congrArg some (by kernel_rfl))
  f169 := Tryd.func100.trans (congrArg some (by kernel_rfl))
  f240 := Tryd.func110.trans (congrArg some (by kernel_rfl))
  f241 := Tryd.func111.trans (congrArg some (by kernel_rfl))
  f276 := Tryd.func123.trans (congrArg some (by kernel_rfl))
  f277 := Tryd.func124.trans (congrArg some (by kernel_rfl))
  t0 := Tryd.underlying0
  a0 := Tryd.isAgg0
  z0 := Tryd.sizeOf0
  v0 := Tryd.zeroValue0
  t3 := Tryd.underlying3
  a3 := Tryd.isAgg3
  z3 := Tryd.sizeOf3
  v3 := Tryd.zeroValue3
  t4 := Tryd.underlying4
  a4 := Tryd.isAgg4
  z4 := Tryd.sizeOf4
  v4 := Tryd.zeroValue4
  t9 := Tryd.underlying9
  a9 := Tryd.isAgg9
  z9 := Tryd.sizeOf9
  v9 := Tryd.zeroValue9
  t20 := Tryd.underlying20
  a20 := Tryd.isAgg20
  z20 := Tryd.sizeOf20
  v20 := Tryd.zeroValue20
  t31 := Tryd.underlying95
  a31 := Tryd.isAgg95
  z31 := Tryd.sizeOf95
  v31 := Tryd.zeroValue95
  t37 := Tryd.underlying107
  a37 := Tryd.isAgg107
  z37 := Tryd.sizeOf107
  v37 := Tryd.zeroValue107
  t70 := Tryd.underlying113
  a70 := Tryd.isAgg113
  z70 := Tryd.sizeOf113
  v70 := Tryd.zeroValue113
  t72 := Tryd.underlying115
  a72 := Tryd.isAgg115
  z72 := Tryd.sizeOf115
  v72 := Tryd.zeroValue115
  t75 := Tryd.underlying98
  a75 := Tryd.isAgg98
  z75 := Tryd.sizeOf98
  v75 := Tryd.zeroValue98
  t76 := Tryd.underlying99
  a76 := Tryd.isAgg99
  z76 := Tryd.sizeOf99
  v76 := Tryd.zeroValue99
  t127 := Tryd.underlying127
  a127 := Tryd.isAgg127
  z127 := Tryd.sizeOf127
  v127 := Tryd.zeroValue127
  t164 := Tryd.underlying143
  a164 := Tryd.isAgg143
  z164 := Tryd.sizeOf143
  v164 := Tryd.zeroValue143 }
theorem Tryd.Builder_Extra_156 : Builder.Extra Tryd.prog Tryd.lays156_ren := {
  sizeBuilder := by kernel_rfl
  liesBuilder := by kernel_rfl
  t5 := Tryd.underlying5
  a5 := Tryd.isAgg5
  z5 := Tryd.sizeOf5
  v5 := Tryd.zeroValue5
  infoByte := by kernel_rfl
  cellsByte := by kernel_rfl
  sizeByte := by kernel_rfl
  neB5 := by decide }
open Go.RowKit in
theorem Tryd.strings_Join_none (a : Option Addr) (c : Nat) (sep : ByteArray) (w : World) :
    Calls Tryd.prog 91 #[.slice a 0 c, .string sep] w fun e w' => e = .returned (.string ⟨#[]⟩) ∧ w' = w := Any.strings_Join_none Tryd.lays156 Tryd.Builder_Extra_156 a c sep w
open Go.RowKit in
theorem Tryd.strings_Join (bk o c : Nat) (xs : List ByteArray) (sep : ByteArray) (w : World) (hcells : ∀ (j : Nat) x, xs[j]? = some x → w.cell? ⟨bk, o + j, none⟩ = some (.string x)) (hbk : bk < w.heap.size) (hN : xs.length ≤ 140737488355328) (hcap : xs.length ≤ c) (hlen : (Lib.join (xs.map (·.data.toList)) sep.data.toList).length ≤ 140737488355328) :
    Calls Tryd.prog 91 #[.slice (some ⟨bk, o, none⟩) xs.length c, .string sep] w fun e w' => e = .returned (.string ⟨(Lib.join (xs.map (·.data.toList)) sep.data.toList).toArray⟩) ∧ Below w.heap.size w w' := Any.strings_Join Tryd.lays156 Tryd.Builder_Extra_156 bk o c xs sep w hcells hbk hN hcap hlen
def Tryd.laysM171_ren : Go.Shelf.Ren := ⟨fun | 171 => 90 | 243 => 97 | 246 => 109 | 283 => 119 | 284 => 120 | 285 => 121 | 286 => 122 | 129 => 133 | 317 => 132 | 318 => 134 | 319 => 135 | 320 => 136 | 337 => 139 | 338 => 140 | n => n, fun | 3 => 3 | 9 => 9 | 2 => 2 | 4 => 4 | 171 => 138 | 0 => 0 | 53 => 57 | 37 => 107 | 5 => 5 | 173 => 141 | 212 => 151 | 51 => 152 | 20 => 20 | 213 => 153 | 46 => 108 | 232 => 162 | 233 => 163 | n => n, fun | 17 => 3 | 18 => 6 | 19 => 7 | n => n⟩
theorem Tryd.laysM171 : Go.Proofs.LaysM.n171 Tryd.prog Tryd.laysM171_ren := {
  mixed := by kernel_rfl
  f129 := Tryd.func133.trans (congrArg some (by kernel_rfl))
  f171 := Tryd.func90.trans (congrArg some (by kernel_rfl))
  f243 := Tryd.func97.trans (congrArg some (by kernel_rfl))
  f246 := Tryd.func109.trans (congrArg some (by kernel_rfl))
  f283 := Tryd.func119.trans (congrArg some (by kernel_rfl))
  f284 := Tryd.func120.trans (congrArg some (by kernel_rfl))
  f285 := Tryd.func121.trans (congrArg some (by kernel_rfl))
  f286 := Tryd.func122.trans (congrArg some (by kernel_rfl))
  f317 := Tryd.func132.trans (congrArg some (by kernel_rfl))
  f318 := Tryd.func134.trans (congrArg some (by kernel_rfl))
  f319 := Tryd.func135.trans (congrArg some (by kernel_rfl))
  f320 := Tryd.func136.trans (congrArg some (by kernel_rfl))
  f337 := Tryd.func139.trans (congrArg some (by kernel_rfl))
  f338 := Tryd.func140.trans (congrArg some (by kernel_rfl))
  t0 := Tryd.underlying0
  a0 := Tryd.isAgg0
  z0 := Tryd.sizeOf0
  v0 := Tryd.zeroValue0
  t2 := Tryd.underlying2
  a2 := Tryd.isAgg2
  z2 := Tryd.sizeOf2
  v2 := Tryd.zeroValue2
  t3 := Tryd.underlying3
  a3 := Tryd.isAgg3
  z3 := Tryd.sizeOf3
  v3 := Tryd.zeroValue3
  t4 := Tryd.underlying4
  a4 := Tryd.isAgg4
  z4 := Tryd.sizeOf4
  v4 := Tryd.zeroValue4
  t5 := Tryd.underlying5
  a5 := Tryd.isAgg5
  z5 := Tryd.sizeOf5
  v5 := Tryd.zeroValue5
  t9 := Tryd.underlying9
  a9 := Tryd.isAgg9
  z9 := Tryd.sizeOf9
  v9 := Tryd.zeroValue9
  t20 := Tryd.underlying20
  a20 := Tryd.isAgg20
  z20 := Tryd.sizeOf20
  v20 := Tryd.zeroValue20
  t37 := Tryd.underlying107
  a37 := Tryd.isAgg107
  z37 := Tryd.sizeOf107
  v37 := Tryd.zeroValue107
  t46 := Tryd.underlying108
  a46 := Tryd.isAgg108
  z46 := Tryd.sizeOf108
  v46 := Tryd.zeroValue108
  t51 := Tryd.underlying152
  a51 := Tryd.isAgg152
  z51 := Tryd.sizeOf152
  v51 := Tryd.zeroValue152
  t53 := Tryd.underlying57
  a53 := Tryd.isAgg57
  z53 := Tryd.sizeOf57
  v53 := Tryd.zeroValue57
  t171 := Tryd.underlying138
  a171 := Tryd.isAgg138
  z171 := Tryd.sizeOf138
  v171 := Tryd.zeroValue138
  t173 := Tryd.underlying141
  a173 := Tryd.isAgg141
  z173 := Tryd.sizeOf141
  v173 := Tryd.zeroValue141
  t212 := Tryd.underlying151
  a212 := Tryd.isAgg151
  z212 := Tryd.sizeOf151
  v212 := Tryd.zeroValue151
  t213 := Tryd.underlying153
  a213 := Tryd.isAgg153
  z213 := Tryd.sizeOf153
  t232 := Tryd.underlying162
  a232 := Tryd.isAgg162
  z232 := Tryd.sizeOf162
  v232 := Tryd.zeroValue162
  t233 := Tryd.underlying163
  a233 := Tryd.isAgg163
  z233 := Tryd.sizeOf163
  v233 := Tryd.zeroValue163
  g17 := by kernel_rfl
  g18 := by kernel_rfl
  g19 := by kernel_rfl
  i0 := by kernel_rfl
  i2 := by kernel_rfl
  i3 := by kernel_rfl
  i4 := by kernel_rfl
  i5 := by kernel_rfl
  i9 := by kernel_rfl
  i20 := by kernel_rfl
  i37 := by kernel_rfl
  i46 := by kernel_rfl
  i51 := by kernel_rfl
  i53 := by kernel_rfl
  i171 := by kernel_rfl
  i173 := by kernel_rfl
  i212 := by kernel_rfl
  i232 := by kernel_rfl
  i233 := by kernel_rfl
  m17 := by kernel_rfl
  m18 := by kernel_rfl
  m19 := by kernel_rfl }
open Go.RowKit Go.Sort Go.Lib in
theorem Tryd.strconv_Itoa (n : Int) (h0 : -9223372036854775808 ≤ n) (h1 : n ≤ 9223372036854775807) (w : World) (htab : Lib.TabIs Tryd.prog w "internal/strconv.uint64pow10" .u64 Lib.pow10Tab) :
    Calls Tryd.prog 90 #[.int .i64 n] w fun e w' => e = .returned (.string ⟨(Lib.itoa n).toArray⟩) ∧ ∃ k os, w' = grow (w.drewN k) os := Any.strconv_Itoa Tryd.laysM171 n h0 h1 w htab
def Tryd.lays264_ren : Go.Shelf.Ren := ⟨fun | 264 => 72 | n => n, fun | 53 => 57 | 46 => 108 | n => n, fun | n => n⟩
theorem Tryd.lays264 : Go.Proofs.Lays.n264 Tryd.prog Tryd.lays264_ren := {
  mixed := by kernel_rfl
  f264 := Tryd.func72.trans (congrArg some (by kernel_rfl))
  t46 := Tryd.underlying108
  a46 := Tryd.isAgg108
  z46 := Tryd.sizeOf108
  v46 := Tryd.zeroValue108
  t53 := Tryd.underlying57
  a53 := Tryd.isAgg57
  z53 := Tryd.sizeOf57
  v53 := Tryd.zeroValue57 }
open Go.RowKit Go.Lib in
theorem Tryd.bits_Mul64 (x y : Nat) (hx : x < 18446744073709551616) (hy : y < 18446744073709551616) (w : World) :
    Calls Tryd.prog 72 #[.int .u64 x, .int .u64 y] w fun e w' => e = .returned (.tuple #[.int .u64 ((x * y / 18446744073709551616 : Nat) : Int), .int .u64 ((x * y % 18446744073709551616 : Nat) : Int)]) ∧ w' = w := Any.bits_Mul64 Tryd.lays264 x y hx hy w
end Go.Proofs

/- words.text, Text. -/
namespace Go.Proofs.YtmjnhpagoboejaaDoor
open Go.RowKit
open Wd
set_option linter.unusedSimpArgs false
set_option linter.unusedVariables false

/-- the table of powers of ten, whatever is laid behind block B -/
def Tab (B : Nat) (w : World) : Prop := Lib.TabBelow Tryd.prog B w "internal/strconv.uint64pow10" .u64 Lib.pow10Tab
theorem Tab.here {B : Nat} {w : World} (h : Tab B w) : Lib.TabIs Tryd.prog w "internal/strconv.uint64pow10" .u64 Lib.pow10Tab := Lib.TabBelow.here h
theorem Tab.below {B B' : Nat} {w w' : World} (h : Tab B w) (hb : Below B' w w') (hB : B ≤ B') : Tab B w' := fun w2 h2 => h w2 ((hb.mono hB).trans h2)
theorem Tab.more {B B' : Nat} {w : World} (h : Tab B w) (hB : B ≤ B') : Tab B' w := fun w2 h2 => h w2 (h2.mono hB)
def bs (l : List UInt8) : Value := .string ⟨l.toArray⟩
theorem bs_one (l : List (List UInt8)) : ∀ u ∈ l.map bs, u.oneCell' = true := by
  intro u hu
  obtain ⟨b, _, rfl⟩ := List.mem_map.1 hu
  rfl
theorem infoS : (Tryd.prog.info? 9).map (fun i => (i.zero, i.size, i.bytes)) = some (some (.string ⟨#[]⟩), 1, 16) := by kernel_rfl
/-- strings in a row of one's own -/
def OwnS (w : World) (B : Nat) (v : Value) (l : List (List UInt8)) : Prop := w.ownsRow B 9 1 v l.length (l.map bs)
theorem OwnS.form {w : World} {B : Nat} {v : Value} {l : List (List UInt8)} (h : OwnS w B v l) : ∃ A c, v = .slice A l.length c ∧ l.length ≤ c ∧ c ≤ maxLen := by
  rcases h.2 with ⟨rfl, h0⟩ | ⟨g, cap, cur, rfl, _, _, hc, hm, _⟩
  · exact ⟨none, 0, by rw [h0], by omega, by unfold maxLen; omega⟩
  · exact ⟨_, cap, rfl, hc, hm⟩
theorem OwnS.alloc {w : World} {B : Nat} {v : Value} {l : List (List UInt8)} (h : OwnS w B v l) (o : Obj) : OwnS (w.alloc o) B v l := World.ownsRow.alloc h o
theorem OwnS.kept {w w' : World} {B : Nat} {v : Value} {l : List (List UInt8)} (h : OwnS w B v l) (hb : Below w.heap.size w w') : OwnS w' B v l := by
  refine ⟨h.1, ?_⟩
  rcases h.2 with h' | ⟨g, cap, cur, hv, hg, hh, r⟩
  · exact .inl h'
  · exact .inr ⟨g, cap, cur, hv, hg, (hb.block g (Array.getElem?_eq_some_iff.1 hh).1).trans hh, r⟩
theorem OwnS.lt {w : World} {B : Nat} {v : Value} {l : List (List UInt8)} (h : OwnS w B v l) : ∀ g, v.ownBlock = some g → B ≤ g ∧ g < w.heap.size := fun g hg => World.ownsRow.lt h g hg
theorem reads_singleS (w : World) (x : List UInt8) : Reads (w.alloc (.cells #[bs x] 9)) (w.heap.size + 1) 1 (some ⟨w.heap.size, 0, none⟩) 1 ([x].map bs) := by
  refine ⟨rfl, fun _ => ⟨_, rfl, Nat.lt_succ_self _, fun j u hu => ?_⟩⟩
  have hb := Blk.new w 9 #[bs x]
  match j, hu with
  | 0, hu => rw [Addr.add_zero', hb.cell 0]; exact hu
  | j + 1, hu => simp at hu
theorem wpS_append {w : World} {ops : Array Oper} {rest : List Oper} {o : Oper} {a : Act} {Q : Exit → Act → World → Prop} (hgd : o.guard = none) (s x : Operand)
    (ho : o.op = .call { callee := .builtin .append, args := #[s, x], argTypes := #[95, 95] }) (B : Nat) (v : Value) (l m : List (List UInt8)) (hown : OwnS w B v l) (hs : a.eval s = v)
    {B' : Nat} {A : Option Addr} {k c : Nat} (hx : a.eval x = .slice A k c) (hk : k = m.length) (hr : Reads w B' 1 A m.length (m.map bs)) (hlen : l.length ≤ 1000000000) (hlm : m.length ≤ 1000000000) (hbase : B ≤ w.heap.size)
    (h : ∀ A' n' c' w', OwnS w' B (.slice A' n' c') (l ++ m) → n' = l.length + m.length → n' ≤ c' → w.grownBy w' v.ownBlock → (∀ w0, Below B w0 w → Below B w0 w') → wpList Tryd.prog ops Q rest (a.put o.dst (.slice A' n' c')) w') :
    wpList Tryd.prog ops Q (o :: rest) a w := by
  obtain ⟨i0, hi, hz0, hz1, hz2⟩ := info_parts infoS
  subst hk
  refine wpList_append_any _ hgd s x 95 ho B 9 i0 (.string ⟨#[]⟩) 1 16 Tryd.underlying95 hi hz0 hz1 hz2 rfl (by decide) v l.length (l.map bs) hs hown _ _ m.length c (m.map bs) hx hr (bs_one _) (by unfold maxLen; omega) (by omega) hbase ?_
  intro v' w' h1 h2 h3
  have h4 : OwnS w' B v' (l ++ m) := by
    unfold OwnS
    rw [List.length_append, List.map_append]
    exact h1
  obtain ⟨A', c', rfl, hc', _⟩ := h4.form
  exact h A' _ c' w' h4 (List.length_append ..) hc' h2 (fun w0 hb => hb.grown h2 hbase (fun k hk => (World.ownsRow.lt hown k hk).1))
theorem OwnS.made0 (w : World) : OwnS (w.alloc (.cells #[] 9)) w.heap.size (.slice (some ⟨w.heap.size, 0, none⟩) 0 0) [] := by
  refine ⟨by simp, .inr ⟨_, 0, _, rfl, Nat.le_refl _, heap_alloc_new w _, by simp, by unfold maxLen; omega, by simp, by simp⟩⟩
theorem join_any {w : World} {B n c : Nat} {A : Option Addr} {l : List (List UInt8)} (h : OwnS w B (.slice A n c) l) (h1 : 1 ≤ l.length) (h2 : l.length ≤ 100000) (hs : (Lib.join l [32]).length ≤ 140737488355328) :
    Calls Tryd.prog 91 #[.slice A n c, .string ⟨#[32]⟩] w (fun e w' => e = .returned (bs (Lib.join l [32])) ∧ Below w.heap.size w w') := by
  obtain ⟨A', c', e, hc, hm⟩ := h.form
  injection e with e1 e2 e3
  subst e1 e2 e3
  have h' : w.ownsRow B 9 1 (.slice A l.length c) l.length (l.map bs) := h
  obtain ⟨g, cap, hv, hg1, hg2⟩ := h'.form (by omega)
  injection hv with e1 _ e3
  subst e1 e3
  have hx : ((l.map (fun b => (⟨b.toArray⟩ : ByteArray))).map (·.data.toList)) = l := by
    rw [List.map_map]
    have : ((fun b : ByteArray => b.data.toList) ∘ fun b : List UInt8 => (⟨b.toArray⟩ : ByteArray)) = id := by funext b; rfl
    rw [this, List.map_id]
  have hj := Tryd.strings_Join g 0 c (l.map (fun b => (⟨b.toArray⟩ : ByteArray))) ⟨#[32]⟩ w (fun j x hj => by
    rw [Nat.zero_add]
    have hc := h'.cells (g := g) rfl j (bs x.data.toList) (by
      rw [List.getElem?_map] at hj ⊢
      cases hlj : l[j]? with
      | none => rw [hlj] at hj; cases hj
      | some b => rw [hlj] at hj; injection hj with hj; subst hj; rfl)
    have e : (⟨g, 0, none⟩ : Addr).add j = ⟨g, j, none⟩ := by rw [Addr.add_lit, Nat.zero_add]
    rw [e] at hc
    exact hc) hg2 (by rw [List.length_map]; omega) (by rw [List.length_map]; exact hc) (by rw [hx]; exact hs)
  rw [hx, List.length_map] at hj
  exact hj
theorem join_small (l : List Int) (h : l.length ≤ 100000) (hl : ∀ k ∈ l, -64 ≤ k ∧ k ≤ 64) : (Lib.join (l.map Lib.itoa) [32]).length ≤ 140737488355328 := by
  have hs : ∀ (l : List Int), (∀ k ∈ l, -64 ≤ k ∧ k ≤ 64) → Lib.lens (l.map Lib.itoa) ≤ 21 * l.length := by
    intro l
    induction l with
    | nil => intro _; exact Nat.le_refl _
    | cons k r ih =>
      intro h
      have h1 := ih (fun x hx => h x (by simp [hx]))
      have h2 := h k (by simp)
      have h3 := Lib.itoa_length_le k (by omega) (by omega)
      have e : Lib.lens (Lib.itoa k :: List.map Lib.itoa r) = (Lib.itoa k).length + Lib.lens (List.map Lib.itoa r) := by simp [Lib.lens]
      rw [List.map_cons, e, List.length_cons]
      omega
  cases l with
  | nil => simp [Lib.join]
  | cons k r =>
    have h1 := hs (k :: r) hl
    rw [List.map_cons] at h1 ⊢
    rw [Lib.join_length, List.length_map]
    simp only [List.length_cons, List.length_nil] at h h1 ⊢
    omega
/-- a word's text -/
def txt (l : List Int) : List UInt8 := if l = [] then [46] else Lib.join (l.map Lib.itoa) [32]
set_option maxRecDepth 100000 in
set_option maxHeartbeats 2000000 in
theorem text_any {w : World} {B n c : Nat} {A : Option Addr} {l : List Int} (ht : Tab B w) (hr : ReadsI w B A l) (hB : B ≤ w.heap.size) (hn : n = l.length) (hl : LetL l) (hnl : n ≤ 100000) :
    Calls Tryd.prog 61 #[.slice A n c] w (fun e w' => e = .returned (bs (txt l)) ∧ Below w.heap.size w w') := by
  have Hn := Lib.hid hn
  have Hl := Lib.hid hl
  have Hr := Lib.hid (hr.more hB)
  have Ht := Lib.hid (ht.more hB)
  clear hr hl hn ht hB
  rcases Nat.eq_zero_or_pos n with h0 | h0
  · have hl0 : l = [] := List.eq_nil_of_length_eq_zero (by rw [← Hn.out]; exact h0)
    have Hl0 := Lib.hid hl0
    subst h0
    clear hl0
    go_enter Tryd.func61, Tryd.ntmps61
    go_wp2_with fail
    go_ret
    exact ⟨by rw [Hl0.out]; rfl, Below.refl _ _⟩
  · have hnb : ((n : Int) == 0) = false := by simp; omega
    go_enter Tryd.func61, Tryd.ntmps61
    go_wp2_with fail
    go_loopg [3, 12] n (fun k lv iv wr => ∃ (i : Nat) (A' : Option Addr) (n' c' : Nat), lv = .slice A' n' c' ∧ iv = .int .i64 (i : Int) ∧ k = n - i ∧ i ≤ n ∧ Hid (OwnS wr w.heap.size (.slice A' n' c') ((l.take i).map Lib.itoa) ∧ Below w.heap.size w wr))
    case atStart => exact ⟨0, some ⟨w.heap.size, 0, none⟩, 0, 0, rfl, rfl, by omega, by omega, Lib.hid ⟨OwnS.made0 w, (Below.refl _ _).alloc (Nat.le_refl _) _⟩⟩
    case round =>
      obtain ⟨i, A1, n1, c1, rfl, rfl, hk, hi, hO⟩ := hrel
      have Hk := Lib.hid hk
      clear hk
      by_cases hin : i < n
      · have hil : i < l.length := by rw [← Hn.out]; exact hin
        obtain ⟨ad, rfl, hb1, c0⟩ := (Hr.out.below hO.out.2).at_ hil
        have hlet := Hl.out l[i] (List.getElem_mem hil)
        have Hst := Lib.hid (show (l.take (i + 1)).map Lib.itoa = (l.take i).map Lib.itoa ++ [Lib.itoa l[i]] by rw [List.take_succ_eq_append_getElem hil, List.map_append]; rfl)
        have hii : (i : Int) < (n : Int) := by omega
        have hn1 : n1 = i := by
          obtain ⟨A', c', e, _⟩ := hO.out.1.form
          injection e with _ e2 _
          rw [e2, List.length_map, List.length_take]; omega
        have Hn1 := Lib.hid hn1
        generalize l[i] = k at *
        have HI := Lib.hid (Tryd.strconv_Itoa k (by omega) (by omega) wr (Ht.out.below hO.out.2 (Nat.le_refl _)).here)
        generalize Lib.itoa k = q at *
        clear hb1 hil hlet hn1
        go_wp2_with fail
        refine HI.out.mono ?_
        rintro e w2 ⟨rfl, kk, os, hw2⟩
        have hb2 : Below wr.heap.size wr w2 := by rw [hw2]; exact Lib.below_grow _ _ (Nat.le_refl _) _ _
        have Hb2 := Lib.hid hb2
        clear hb2 hw2
        have hsz := hO.out.2.size
        go_wp2_with (refine wpS_append rfl (.tmp 16) (.tmp 19) rfl w.heap.size _ ((l.take i).map Lib.itoa) [q] ((hO.out.1.kept Hb2.out).alloc _) rfl rfl rfl (reads_singleS _ q) (by rw [List.length_map, List.length_take]; omega) (by simp) (by have := Hb2.out.size; simp; omega) ?_; intro A2 n2 c2 w3 ho2 hn2 hc2 hg2 hb3; have Ho2 := Lib.hid (And.intro ho2 (hb3 _ (((hO.out.2.trans (Hb2.out.mono hsz))).alloc (by have := Hb2.out.size; omega) _))); clear ho2 hn2 hc2 hg2 hb3)
        go_roundg (n - (i + 1))
        case measure => have := Hk.out; omega
        case rel => exact ⟨i + 1, A2, n2, c2, rfl, rfl, rfl, by omega, Lib.hid ⟨by rw [Hst.out]; exact Ho2.out.1, Ho2.out.2⟩⟩
      · have hii : (n : Int) ≤ (i : Int) := by omega
        have hiN : i = n := by omega
        subst hiN
        have ho : OwnS wr w.heap.size (.slice A1 n1 c1) (l.map Lib.itoa) := by
          have h := hO.out.1
          rw [List.take_of_length_le (by have := Hn.out; omega)] at h
          exact h
        have HJ := Lib.hid (join_any (A := A1) (n := n1) (c := c1) ho (by have := Hn.out; rw [List.length_map]; omega) (by have := Hn.out; rw [List.length_map]; omega) (join_small l (by have := Hn.out; omega) (fun k hk => by have := Hl.out k hk; omega)))
        have Htx := Lib.hid (show txt l = Lib.join (l.map Lib.itoa) [32] by unfold txt; rw [if_neg]; intro h; rw [h] at Hn; have := Hn.out; simp at this; omega)
        clear ho
        go_wp2_with fail
        refine HJ.out.mono ?_
        rintro e w2 ⟨rfl, hb2⟩
        have Hb2 := Lib.hid hb2
        clear hb2
        go_wp2_with fail
        go_ret
        exact ⟨by rw [Htx.out]; rfl, hO.out.2.trans (Hb2.out.mono hO.out.2.size)⟩
set_option maxRecDepth 100000 in
theorem wtext_bad {w : World} {B n c : Nat} {A : Option Addr} {l : List Int} (hr : ReadsI w B A l) (hB : B ≤ w.heap.size) (hn : n = l.length) (hw : Wf l) (hnl : n ≤ 1000000000000) (hz : chk [l] ≠ 0) :
    Calls Tryd.prog 19 #[.slice A n c] w (fun e w' => e = .returned (.tuple #[bs [], .int .i64 (chk [l])]) ∧ Below w.heap.size w w') := by
  subst hn
  have HC := Lib.hid (check_any (c := 1) (row_one w (A, c, l) hr hB) (n := 1) rfl (by decide) (fun r hr' => by rw [List.mem_singleton.1 hr']; exact ⟨hw, hnl⟩))
  simp only [List.map_cons, List.map_nil] at HC
  have Hb := Lib.hid ((Below.refl w.heap.size w).alloc (Nat.le_refl _) (.cells #[.slice A l.length c] 22))
  generalize chk [l] = z at *
  clear hr hw hnl hB
  have hzb : (z != 0) = true := by simp; exact hz
  go_enter Tryd.func19, Tryd.ntmps19
  go_wp2_with fail
  refine HC.out.mono ?_
  rintro e w' ⟨rfl, rfl⟩
  go_wp2_with fail
  go_ret2
  exact ⟨rfl, Hb.out⟩
set_option maxRecDepth 100000 in
theorem wtext_ok {w : World} {B n c : Nat} {A : Option Addr} {l : List Int} (ht : Tab B w) (hr : ReadsI w B A l) (hB : B ≤ w.heap.size) (hn : n = l.length) (hz : chk [l] = 0) :
    Calls Tryd.prog 19 #[.slice A n c] w (fun e w' => e = .returned (.tuple #[bs (txt l), .int .i64 0]) ∧ Below w.heap.size w w') := by
  obtain ⟨hw, hlen⟩ := chk_one.1 hz
  have hlet := word_let hw
  subst hn
  have hwf : Wf l := fun k hk => by have := hlet k hk; omega
  have hb0 := (Below.refl w.heap.size w).alloc (Nat.le_refl _) (.cells #[.slice A l.length c] 22)
  have HC := Lib.hid (check_any (c := 1) (row_one w (A, c, l) hr hB) (n := 1) rfl (by decide) (fun r hr' => by rw [List.mem_singleton.1 hr']; exact ⟨hwf, by show l.length ≤ _; omega⟩))
  simp only [List.map_cons, List.map_nil, hz] at HC
  have HT := Lib.hid (text_any (w := w.alloc (.cells #[.slice A l.length c] 22)) (c := c) (ht.below hb0 hB) (hr.alloc hB (.cells #[.slice A l.length c] 22)) (by simp; omega) rfl hlet (by omega))
  have Hb := Lib.hid hb0
  clear hr hw hwf hB hz hlet hlen hb0 ht
  go_enter Tryd.func19, Tryd.ntmps19
  go_wp2_with fail
  refine HC.out.mono ?_
  rintro e w' ⟨rfl, rfl⟩
  go_wp2_with fail
  refine HT.out.mono ?_
  rintro e w' ⟨rfl, hb⟩
  have Hb2 := Lib.hid hb
  clear hb
  go_wp2_with fail
  go_ret2
  exact ⟨rfl, Hb.out.trans (Hb2.out.mono (by simp))⟩
end Go.Proofs.YtmjnhpagoboejaaDoor

/- words.All: what it refuses, and the function that it hands back. -/
namespace Go.Proofs.YtmjnhpagoboejaaDoor
open Go.RowKit
open Wd
set_option linter.unusedSimpArgs false
set_option linter.unusedVariables false

def allBoxes (w : World) (x m : Int) : World := (w.alloc (.cells #[.int .i64 x] 3)).alloc (.cells #[.int .i64 m] 3)
theorem allBoxes_below (w : World) (x m : Int) : Below w.heap.size w (allBoxes w x m) := ((Below.refl _ w).alloc (Nat.le_refl _) _).alloc (by simp) _
set_option maxRecDepth 100000 in
theorem all_bad {w : World} {x m : Int} (h : x < 1 ∨ 64 < x ∨ m < 0) :
    Calls Tryd.prog 40 #[.int .i64 x, .int .i64 m] w (fun e w' => e = .returned (.tuple #[.nilFunc, .int .i64 2]) ∧ Below w.heap.size w w') := by
  have Hb := Lib.hid (allBoxes_below w x m)
  unfold allBoxes at Hb
  by_cases h1 : x < 1
  · clear h
    go_enter Tryd.func40, Tryd.ntmps40
    go_wp2_with fail
    go_ret2
    exact ⟨rfl, Hb.out⟩
  · by_cases h2 : 64 < x
    · clear h
      go_enter Tryd.func40, Tryd.ntmps40
      go_wp2_with fail
      go_ret2
      exact ⟨rfl, Hb.out⟩
    · have h3 : m < 0 := by omega
      clear h
      go_enter Tryd.func40, Tryd.ntmps40
      go_wp2_with fail
      go_ret2
      exact ⟨rfl, Hb.out⟩
set_option maxRecDepth 100000 in
theorem all_long {w : World} {x m : Int} (h1 : 1 ≤ x) (h2 : x ≤ 64) (h3 : 4096 < m) :
    Calls Tryd.prog 40 #[.int .i64 x, .int .i64 m] w (fun e w' => e = .returned (.tuple #[.nilFunc, .int .i64 3]) ∧ Below w.heap.size w w') := by
  have Hb := Lib.hid (allBoxes_below w x m)
  unfold allBoxes at Hb
  have h4 : ¬ m < 0 := by omega
  go_enter Tryd.func40, Tryd.ntmps40
  go_wp2_with fail
  go_ret2
  exact ⟨rfl, Hb.out⟩
set_option maxRecDepth 100000 in
theorem all_ok {w : World} {x m : Int} (h1 : 1 ≤ x) (h2 : x ≤ 64) (h3 : 0 ≤ m) (h4 : m ≤ 4096) :
    Calls Tryd.prog 40 #[.int .i64 x, .int .i64 m] w (fun e w' => e = .returned (.tuple #[.func (.func 73) #[] #[.pointer (some ⟨w.heap.size + 1, 0, none⟩), .pointer (some ⟨w.heap.size, 0, none⟩)], .int .i64 0]) ∧ w' = allBoxes w x m) := by
  unfold allBoxes
  go_enter Tryd.func40, Tryd.ntmps40
  go_wp2_with fail
  go_ret2
  exact ⟨rfl, rfl⟩
end Go.Proofs.YtmjnhpagoboejaaDoor

/- law.known. -/
namespace Go.Proofs.YtmjnhpagoboejaaDoor
open Go.RowKit
open Wd
set_option linter.unusedSimpArgs false
set_option linter.unusedVariables false

theorem run_equalIn_func {P : Program} {t : TypeId} {a b c} (d : Nat) (w : World) (h : P.underlying t = some (.func a b c)) (f : Fn) (ts l : Array Value) : (Op.equalIn (d + 1) t (.func f ts l) .nilFunc).run P w = .ok false w := by
  simp [Op.equalIn, run_underlying h]
theorem run_equal_func {P : Program} {t : TypeId} {a b c} (w : World) (h : P.underlying t = some (.func a b c)) (f : Fn) (ts l : Array Value) : (Op.equal t (.func f ts l) .nilFunc).run P w = .ok false w := by
  exact run_equalIn_func 9999 w h f ts l
theorem neq_func (f : Fn) (ts l : Array Value) (w : World) : (binOp .neq 63 (.func f ts l) .nilFunc).run Tryd.prog w = .ok (.bool true) w := by
  simp [binOp, run_equal_func w Tryd.underlying63 f ts l]
theorem reads_lit (w : World) (xs : List Int) : ReadsI (w.alloc (.cells (xs.map iv).toArray 3)) (w.heap.size + 1) (some ⟨w.heap.size, 0, none⟩) xs := by
  refine ⟨by simp, fun _ => ⟨_, rfl, Nat.lt_succ_self _, fun j u hu => ?_⟩⟩
  have hb := Blk.new w 3 (xs.map iv).toArray
  have e : (⟨w.heap.size, 0, none⟩ : Addr).add j = ⟨w.heap.size, j, none⟩ := by rw [Addr.add_lit, Nat.zero_add]
  rw [e, hb.cell j]
  simpa using hu
theorem drewN_below (w : World) (d : Nat) : Below w.heap.size w (w.drewN d) := by
  have h := Below.refl w.heap.size w
  exact ⟨h.os, h.tape, h.output, h.size, h.block⟩
theorem same_lit {w : World} {B n c : Nat} {A : Option Addr} {l : List Int} (hr : ReadsI w B A l) (hB : B ≤ w.heap.size) (hn : n = l.length) (hb : n ≤ 1000000000) :
    Calls Tryd.prog 27 #[.slice A n c, .slice (some ⟨w.heap.size, 0, none⟩) l.length l.length] (w.alloc (.cells (l.map iv).toArray 3)) (fun e w' => e = .returned (.bool true) ∧ Below w.heap.size w w') := by
  refine (same_true (hr.alloc hB _) (reads_lit w l) hn rfl hb rfl).mono ?_
  rintro e w' ⟨rfl, d, rfl⟩
  exact ⟨rfl, ((Below.refl w.heap.size w).alloc (Nat.le_refl _) _).trans ((drewN_below _ d).mono (by simp))⟩
theorem k_short : short [1, 2, -2, -1, 3] = [3] := by decide
theorem k_pow : powl [1, 2, -1] 3 = [1, 2, 2, 2, -1] := by decide
theorem k_core : core (short [-1, 2, 3, 1]) = [2, 3] := by decide
theorem k_conj : conj (short [-1, 2, 3, 1]) = [1] := by decide
theorem k_root : rootw [-1, 2, 2, 1] = [-1, 2, 1] := by decide
theorem k_times : (core (short [-1, 2, 2, 1])).length / per (core (short [-1, 2, 2, 1])) = 2 := by decide
theorem k_text : txt [1, -12] = [49, 32, 45, 49, 50] := by
  simp [txt, Lib.join, Lib.itoa, Lib.decDigits, List.intercalate]
set_option maxRecDepth 100000 in
set_option maxHeartbeats 4000000 in
theorem known_any {w : World} {B : Nat} (ht : Tab B w) (hB : B ≤ w.heap.size) :
    Calls Tryd.prog 12 #[] w (fun e w' => e = .returned (.bool true) ∧ Below w.heap.size w w') := by
  have HT := Lib.hid (ht.more hB)
  clear ht
  go_enter Tryd.func12, Tryd.ntmps12
  go_wp2_with fail
  refine (short_ok (reads_lit w [1, 2, -2, -1, 3]) (by simp) rfl (by decide)).mono ?_
  rintro e w1 ⟨A1, n1, rfl, hr1, hb1⟩
  rw [k_short] at hr1
  have H1 := Lib.hid (And.intro hr1 (((Below.refl w.heap.size w).alloc (Nat.le_refl _) _).trans (hb1.mono (by simp))))
  clear hr1 hb1
  go_wp2_with fail
  refine (pow_ok (reads_lit w1 [1, 2, -1]) (by simp) rfl (by decide) (by decide) (by decide)).mono ?_
  rintro e w2 ⟨hb2, hcase⟩
  rw [k_pow] at hcase
  rcases hcase with ⟨_, A2, n2, rfl, hr2⟩ | ⟨hf, _⟩
  case inr => exact absurd hf (by decide)
  have H2 := Lib.hid (And.intro hr2 (((Below.refl w1.heap.size w1).alloc (Nat.le_refl _) _).trans (hb2.mono (by simp))))
  clear hr2 hb2
  go_wp2_with fail
  refine (core_ok (reads_lit w2 [-1, 2, 3, 1]) (by simp) rfl (by decide)).mono ?_
  rintro e w3 ⟨A3, c3, A4, c4, rfl, ho3, ho4, hb3⟩
  rw [k_core] at ho3
  rw [k_conj] at ho4
  rw [k_core, k_conj]
  have H3 := Lib.hid (And.intro ho3 (And.intro ho4 (((Below.refl w2.heap.size w2).alloc (Nat.le_refl _) _).trans (hb3.mono (by simp)))))
  clear ho3 ho4 hb3
  go_wp2_with fail
  refine (root_ok (reads_lit w3 [-1, 2, 2, 1]) (by simp) rfl (by decide) (by decide)).mono ?_
  rintro e w4 ⟨A5, n5, c5, q, rfl, hq, ho5, hb4⟩
  rw [k_times] at hq
  rw [k_root] at ho5
  have H4 := Lib.hid (And.intro ho5 (((Below.refl w3.heap.size w3).alloc (Nat.le_refl _) _).trans (hb4.mono (by simp))))
  subst hq
  clear ho5 hb4
  have HB4 := Lib.hid (show Below w.heap.size w w4 from ((H1.out.2.trans (H2.out.2.mono H1.out.2.size)).trans (H3.out.2.2.mono (by have := H1.out.2.size; have := H2.out.2.size; omega))).trans (H4.out.2.mono (by have := H1.out.2.size; have := H2.out.2.size; have := H3.out.2.2.size; omega)))
  go_wp2_with fail
  refine (wtext_ok (B := w4.heap.size + 1) ((HT.out.below HB4.out (Nat.le_refl _)).below ((Below.refl w.heap.size w4).alloc HB4.out.size _) (Nat.le_refl _) |>.more (by have := HB4.out.size; omega)) (reads_lit w4 [1, -12]) (by simp) rfl (by decide)).mono ?_
  rintro e w5 ⟨rfl, hb5⟩
  rw [k_text, show bs [49, 32, 45, 49, 50] = Value.string ⟨#[49, 32, 45, 49, 50]⟩ from rfl]
  have H5 := Lib.hid (((Below.refl w4.heap.size w4).alloc (Nat.le_refl _) _).trans (hb5.mono (by simp)))
  clear hb5
  go_wp2_with fail
  refine (all_ok (by decide) (by decide) (by decide) (by decide)).mono ?_
  rintro e w6 ⟨rfl, hw6⟩
  have hb6 : Below w5.heap.size w5 w6 := by rw [hw6]; exact allBoxes_below _ _ _
  have H6 := Lib.hid hb6
  clear hw6 hb6
  have B56 := Lib.hid (show Below w4.heap.size w4 w6 from H5.out.trans (H6.out.mono H5.out.size))
  have B36 := Lib.hid (show Below w3.heap.size w3 w6 from H4.out.2.trans (B56.out.mono H4.out.2.size))
  have B26 := Lib.hid (show Below w2.heap.size w2 w6 from H3.out.2.2.trans (B36.out.mono H3.out.2.2.size))
  have B16 := Lib.hid (show Below w1.heap.size w1 w6 from H2.out.2.trans (B26.out.mono H2.out.2.size))
  have B06 := Lib.hid (show Below w.heap.size w w6 from H1.out.2.trans (B16.out.mono H1.out.2.size))
  have R1 := Lib.hid (show ReadsI w6 w6.heap.size A1 [3] by obtain ⟨_, c, ho, _⟩ := H1.out.1; exact (ho.kept B16.out).reads)
  have R2 := Lib.hid (show ReadsI w6 w6.heap.size A2 [1, 2, 2, 2, -1] by obtain ⟨_, c, ho, _⟩ := H2.out.1; exact (ho.kept B26.out).reads)
  have R3 := Lib.hid (show ReadsI w6 w6.heap.size A3 [2, 3] from (H3.out.1.kept B36.out).reads)
  have R4 := Lib.hid (show ReadsI w6 w6.heap.size A4 [1] from (H3.out.2.1.kept B36.out).reads)
  have R5 := Lib.hid (show ReadsI w6 w6.heap.size A5 [-1, 2, 1] from (H4.out.1.kept B56.out).reads)
  have N1 := H1.out.1.1
  have N2 := H2.out.1.1
  have N5 := H4.out.1.len.1
  have hq := fun w' => neq_func (.func 73) #[] #[.pointer (some ⟨w5.heap.size + 1, 0, none⟩), .pointer (some ⟨w5.heap.size, 0, none⟩)] w'
  clear H1 H2 H3 H4 H5 H6 B56 B36 B26 B16 HB4 HT
  subst N1 N2 N5
  go_wp2_with fail
  refine (same_lit (l := [3]) R1.out (Nat.le_refl _) rfl (by decide)).mono ?_
  rintro e w7 ⟨rfl, hb7⟩
  have H7 := Lib.hid hb7
  clear hb7
  go_wp2_with ((go_at_call 20; refine num_any.mono ?_; rintro e w' ⟨rfl, rfl⟩))
  refine (same_lit (l := [1, 2, 2, 2, -1]) (R2.out.below H7.out) H7.out.size rfl (by decide)).mono ?_
  rintro e w8 ⟨rfl, hb8⟩
  have H8 := Lib.hid (H7.out.trans (hb8.mono H7.out.size))
  clear hb8
  go_wp2_with ((go_at_call 20; refine num_any.mono ?_; rintro e w' ⟨rfl, rfl⟩))
  refine (same_lit (l := [2, 3]) (R3.out.below H8.out) H8.out.size rfl (by decide)).mono ?_
  rintro e w9 ⟨rfl, hb9⟩
  have H9 := Lib.hid (H8.out.trans (hb9.mono H8.out.size))
  clear hb9
  go_wp2_with ((go_at_call 20; refine num_any.mono ?_; rintro e w' ⟨rfl, rfl⟩))
  refine (same_lit (l := [1]) (R4.out.below H9.out) H9.out.size rfl (by decide)).mono ?_
  rintro e w10 ⟨rfl, hb10⟩
  have H10 := Lib.hid (H9.out.trans (hb10.mono H9.out.size))
  clear hb10
  go_wp2_with ((go_at_call 20; refine num_any.mono ?_; rintro e w' ⟨rfl, rfl⟩))
  refine (same_lit (l := [-1, 2, 1]) (R5.out.below H10.out) H10.out.size rfl (by decide)).mono ?_
  rintro e w11 ⟨rfl, hb11⟩
  have H11 := Lib.hid (H10.out.trans (hb11.mono H10.out.size))
  clear hb11
  go_wp2_with ((go_at_call 20; refine num_any.mono ?_; rintro e w' ⟨rfl, rfl⟩))
  go_ret
  exact ⟨rfl, B06.out.trans (H11.out.mono B06.out.size)⟩
end Go.Proofs.YtmjnhpagoboejaaDoor

/- law.much, lent, left, told. -/
namespace Go.Proofs.YtmjnhpagoboejaaDoor
open Go.RowKit
open Wd
set_option linter.unusedSimpArgs false
set_option linter.unusedVariables false

/-- letters, of each word 10000 at most -/
def muchN (ls : List (List Int)) : Nat := (ls.map (fun l => min l.length 10000)).sum
theorem muchN_take {rs : List SRow} {i : Nat} (h : i < rs.length) : muchN ((rs.take (i + 1)).map (fun r => r.2.2)) = muchN ((rs.take i).map (fun r => r.2.2)) + min rs[i].2.2.length 10000 := by
  unfold muchN
  rw [List.take_succ_eq_append_getElem h, List.map_append, List.map_append, List.sum_append]
  simp
theorem muchN_le (ls : List (List Int)) : muchN ls ≤ 10000 * ls.length := by
  induction ls with
  | nil => simp [muchN]
  | cons l r ih =>
    unfold muchN at ih ⊢
    rw [List.map_cons, List.sum_cons, List.length_cons]
    omega
set_option maxRecDepth 100000 in
set_option maxHeartbeats 2000000 in
theorem much_any {w : World} {B n c : Nat} {A : Option Addr} {rs : List SRow} (hr : ReadsL w B A rs) (hn : n = rs.length) (hnl : n ≤ 100000000000) (hw : ∀ r ∈ rs, r.2.2.length ≤ 1000000000000000) :
    Calls Tryd.prog 11 #[.slice A n c] w (fun e w' => e = .returned (.bool (decide ((9000 : Int) < (muchN (rs.map (fun r => r.2.2)) : Nat)))) ∧ w = w') := by
  have Hn := Lib.hid hn
  have Hw := Lib.hid hw
  have Hr := Lib.hid hr
  clear hr hn hw
  go_enter Tryd.func11, Tryd.ntmps11
  go_wp2_with fail
  go_loopg [3, 4] n (fun k sv iv wr => ∃ (i M : Nat), sv = .int .i64 (M : Int) ∧ iv = .int .i64 (i : Int) ∧ k = n - i ∧ i ≤ n ∧ M ≤ 10000 * i ∧ w = wr ∧ Hid (M = muchN ((rs.take i).map (fun r => r.2.2))))
  case atStart => exact ⟨0, 0, rfl, rfl, by omega, by omega, by omega, rfl, Lib.hid rfl⟩
  case round =>
    obtain ⟨i, M, rfl, rfl, hk, hi, hM, rfl, ht⟩ := hrel
    have Hk := Lib.hid hk
    clear hk
    by_cases hin : i < n
    · have hil : i < rs.length := by rw [← Hn.out]; exact hin
      obtain ⟨ad, rfl, hb1, c0⟩ := Hr.out.at_ hil
      have hlen := Hw.out rs[i] (List.getElem_mem hil)
      have Hst := Lib.hid (muchN_take hil)
      have hii : (i : Int) < (n : Int) := by omega
      generalize rs[i].2.2.length = m at *
      generalize rs[i].1 = a1 at *
      generalize rs[i].2.1 = c1 at *
      clear hil hb1
      by_cases hm : m ≤ 10000
      · go_wp2_with fail
        all_goals (
          go_roundg (n - (i + 1))
          case measure => have := Hk.out; omega
          case rel => exact ⟨i + 1, M + min m 10000, by rw [show min m 10000 = m by omega]; go_num, rfl, rfl, by omega, by omega, rfl, Lib.hid (by rw [Hst.out, ht.out])⟩)
      · go_wp2_with fail
        all_goals (
          go_roundg (n - (i + 1))
          case measure => have := Hk.out; omega
          case rel => exact ⟨i + 1, M + min m 10000, by rw [show min m 10000 = 10000 by omega]; go_num, rfl, rfl, by omega, by omega, rfl, Lib.hid (by rw [Hst.out, ht.out])⟩)
    · have hii : (n : Int) ≤ (i : Int) := by omega
      have hend : muchN (rs.map (fun r => r.2.2)) = M := by
        have h := ht.out
        rw [List.take_of_length_le (by have := Hn.out; omega)] at h
        exact h.symm
      have Hend := Lib.hid hend
      clear hend
      go_wp2_with fail
      go_ret
      exact ⟨by rw [Hend.out]; rfl, rfl⟩
set_option maxRecDepth 100000 in
/-- a word in new memory, with a mark behind -/
theorem lent_any {w : World} {B n c : Nat} {A : Option Addr} {l : List Int} (hr : ReadsI w B A l) (hB : B ≤ w.heap.size) (hn : n = l.length) (hb : n ≤ 100000000) :
    Calls Tryd.prog 13 #[.slice A n c] w (fun e w' => ∃ A' c', e = .returned (.slice A' n c') ∧ n + 1 ≤ c' ∧ OwnI w' w.heap.size (.slice A' (n + 1) c') (l ++ [771]) ∧ Below w.heap.size w w') := by
  have Hn := Lib.hid hn
  have Hr := Lib.hid hr
  have HB := Lib.hid hB
  clear hr hn hB
  go_enter Tryd.func13, Tryd.ntmps13
  go_wp2_with (first
    | (refine wpI_append rfl (.const (.slice none 0 0)) (.tmp 3) rfl w.heap.size _ [] l (OwnI.nil _ _) rfl rfl Hn.out Hr.out (by simp) (by have := Hn.out; omega) (by simp) ?_; intro A2 n2 c2 w2 ho2 hn2 hc2 hg2 hw2 hb2; have Ho2 := Lib.hid (And.intro ho2 (And.intro hn2 (hb2 _ (Below.refl _ _)))); clear ho2 hn2 hc2 hg2 hw2 hb2)
    | (refine wpI_append rfl (.tmp 4) (.tmp 5) rfl w.heap.size _ l [771] (Ho2.out.1.alloc _) rfl rfl rfl (reads_single _ 771) (by have := Hn.out; omega) (by simp) (by have := Ho2.out.2.2.size; simp; omega) ?_; intro A3 n3 c3 w3 ho3 hn3 hc3 hg3 hw3 hb3; have Ho3 := Lib.hid (And.intro ho3 (And.intro hn3 (And.intro hc3 (hb3 _ (Ho2.out.2.2.alloc (Ho2.out.2.2.size) _))))); have hnc : (n : Int) ≤ (c3 : Int) := (by have h1 := Hn.out; have h2 := hc3; have h3 := hn3; rw [List.length_singleton] at h3; omega); clear ho3 hn3 hc3 hg3 hw3 hb3))
  go_ret
  have h3 : n3 = n + 1 := by have h1 := Ho3.out.2.1; have h2 := Hn.out; rw [List.length_singleton] at h1; omega
  exact ⟨A3, c3, rfl, by have := Ho3.out.2.2.1; omega, by rw [← h3]; exact Ho3.out.1, Ho3.out.2.2.2⟩
set_option maxRecDepth 100000 in
/-- a word that was lent is as it was, and so is the mark -/
theorem left_any {w : World} {B B' n c n' c' : Nat} {A A' : Option Addr} {l : List Int} (hr : ReadsI w B A (l ++ [771])) (hr' : ReadsI w B' A' l) (hn : n = l.length) (hn' : n' = l.length) (hc : n + 1 ≤ c) (hb : n ≤ 100000000) :
    Calls Tryd.prog 22 #[.slice A n c, .slice A' n' c'] w (fun e w' => e = .returned (.bool true) ∧ Below w.heap.size w w') := by
  subst hn hn'
  have HS := Lib.hid (same_true (c := c) (c' := c') hr.take hr' rfl rfl (by omega) rfl)
  have hlt : l.length < (l ++ [771]).length := by simp
  obtain ⟨ad, rfl, hb1, c0⟩ := hr.at_ hlt
  have e : (l ++ [771])[l.length]'hlt = 771 := by simp
  rw [e] at c0
  have hc2 : (l.length : Int) + 1 ≤ (c : Int) := by omega
  generalize l.length = n at *
  clear hr hr' hb1 e hlt
  go_enter Tryd.func22, Tryd.ntmps22
  go_wp2_with fail
  refine HS.out.mono ?_
  rintro e w' ⟨rfl, d, rfl⟩
  have Hb := Lib.hid (drewN_below w d)
  go_wp2_with fail
  go_ret
  exact ⟨rfl, Hb.out⟩
end Go.Proofs.YtmjnhpagoboejaaDoor

/- law.told. -/
namespace Go.Proofs.YtmjnhpagoboejaaDoor
open Go.RowKit
open Wd
set_option linter.unusedSimpArgs false
set_option linter.unusedVariables false

/-- ints that lie elsewhere than in block o -/
def AwayI (w : World) (o : Option Nat) (A : Option Addr) (l : List Int) : Prop := ReadsI w w.heap.size A l ∧ (1 ≤ l.length → ∀ ad, A = some ad → some ad.block ≠ o)
theorem AwayI.grown {w w' : World} {o : Option Nat} {A : Option Addr} {l : List Int} (h : AwayI w o A l) (hg : w.grownBy w' o) : AwayI w' o A l := by
  refine ⟨⟨h.1.1, fun hn => ?_⟩, h.2⟩
  obtain ⟨ad, e, hb, hc⟩ := h.1.2 hn
  refine ⟨ad, e, by have := hg.size; omega, fun j u hu => ?_⟩
  rw [← hc j u hu]
  refine World.cell?_of_block ?_
  rw [block_of_add]
  exact hg.block ad.block hb (h.2 hn ad e)
theorem AwayI.alloc {w : World} {o : Option Nat} {A : Option Addr} {l : List Int} (h : AwayI w o A l) (b : Obj) : AwayI (w.alloc b) o A l := ⟨(h.1.alloc (Nat.le_refl _) b).more (by simp), h.2⟩
theorem AwayI.none_ (w : World) (o : Option Nat) (A : Option Addr) : AwayI w o A [] := ⟨ReadsI.none_ w _ A, fun h => by simp at h⟩
/-- what lies below an own row -/
theorem AwayI.of_below {w : World} {B B' n c : Nat} {A Av : Option Addr} {l m : List Int} (h : ReadsI w B A l) (hB : B ≤ w.heap.size) (ho : OwnI w B' (.slice Av n c) m) (hBB : B ≤ B') : AwayI w (Value.slice Av n c).ownBlock A l := by
  refine ⟨h.more hB, fun hn ad e he => ?_⟩
  obtain ⟨ad', e', hb, _⟩ := h.2 hn
  rw [e] at e'
  injection e' with e'
  subst e'
  have := (ho.lt ad.block he.symm).1
  omega
/-- an own row that was made behind another one's block -/
theorem AwayI.of_own {w : World} {B n c : Nat} {A : Option Addr} {l : List Int} {o : Option Nat} (h : OwnI w B (.slice A n c) l) (ho : ∀ g, o = some g → g < B) : AwayI w o A l := by
  refine ⟨h.reads, fun hn ad e he => ?_⟩
  have hl := h.len.1
  have hf : w.ownsRow B 3 1 (.slice A n c) n (l.map iv) := by rw [hl]; rw [hl] at h; exact h
  obtain ⟨g, cap, hv, hg1, hg2⟩ := hf.form (by omega)
  injection hv with e1 _ _
  rw [e] at e1
  injection e1 with e1
  subst e1
  have := ho g he.symm
  omega
theorem OwnI.set_ {w : World} {B n c : Nat} {ad : Addr} {l : List Int} (h : OwnI w B (.slice (some ad) n c) l) (i : Nat) (x : Int) (hi : i < l.length) : OwnI (w.setCell (ad.add i) (.int .i64 x)) B (.slice (some ad) n c) (l.set i x) ∧ w.grownBy (w.setCell (ad.add i) (.int .i64 x)) (some ad.block) ∧ w.frozen? (ad.add i) = false := by
  have hl := h.len.1
  have hf : w.ownsRow B 3 1 (.slice (some ad) n c) n (l.map iv) := by rw [hl]; rw [hl] at h; exact h
  obtain ⟨g, cap, hv, hg1, hg2⟩ := hf.form (by omega)
  injection hv with e1 _ e3
  injection e1 with e1
  subst e1 e3
  have e : (⟨g, 0, none⟩ : Addr).add i = ⟨g, i, none⟩ := by rw [Addr.add_lit, Nat.zero_add]
  have hs := hf.stored i (.int .i64 x)
  rw [e]
  refine ⟨?_, hs.2, hf.frozenAt i⟩
  unfold OwnI
  rw [List.length_set, ← hl, List.map_set]
  exact hs.1
/-- append(row that is full, l...) -/
theorem wpI_grows {w : World} {ops : Array Oper} {rest : List Oper} {o : Oper} {a : Act} {Q : Exit → Act → World → Prop} (hgd : o.guard = none) (s x : Operand)
    (ho : o.op = .call { callee := .builtin .append, args := #[s, x], argTypes := #[22, 22] }) (B n c : Nat) (A : Option Addr) (l m : List Int) (hown : OwnI w B (.slice A n c) l) (hs : a.eval s = .slice A n n)
    {B' : Nat} {ad : Addr} {k cx : Nat} (hx : a.eval x = .slice (some ad) k cx) (hk : k = m.length) (hk1 : 1 ≤ k) (hr : ReadsI w B' (some ad) m) (hlen : l.length ≤ 1000000000) (hlm : m.length ≤ 1000000000)
    (h : ∀ A' n' c' w', OwnI w' w.heap.size (.slice A' n' c') (l ++ m) → n' = l.length + m.length → n' ≤ c' → w.grownBy w' none → wpList Tryd.prog ops Q rest (a.put o.dst (.slice A' n' c')) w') :
    wpList Tryd.prog ops Q (o :: rest) a w := by
  obtain ⟨i0, hi, hz0, hz1, hz2⟩ := info_parts infoI
  subst hk
  have hl := hown.len.1
  refine wpList_append_grows w hgd s x 22 ho 3 i0 (.int .i64 0) 1 8 Tryd.underlying22 hi hz0 hz1 hz2 rfl (by decide) A n n (l.map iv) hs (fun hA => ?_) (by simp; omega) (fun b hb j u hj => ?_) ad m.length cx (m.map iv) hx (by simp) (fun j u hj => ?_) (iv_one _) (by omega) (by unfold maxLen; omega) (by omega) ?_
  · subst hA
    rcases Nat.eq_zero_or_pos n with h0 | h0
    · exact ⟨h0, h0⟩
    · obtain ⟨ad', e, _⟩ := hown.reads.at_ (k := 0) (by omega)
      cases e
  · have hjl := (List.getElem?_eq_some_iff.1 hj).1
    rw [List.length_map] at hjl
    obtain ⟨ad', e, _, hc⟩ := hown.reads.at_ hjl
    rw [hb] at e
    have e := Option.some.inj e
    rw [e, hc, ← hj, List.getElem?_map, List.getElem?_eq_getElem hjl]
    rfl
  · have hjl := (List.getElem?_eq_some_iff.1 hj).1
    rw [List.length_map] at hjl
    obtain ⟨ad', e, _, hc⟩ := hr.at_ hjl
    have e := Option.some.inj e
    rw [e, hc, ← hj, List.getElem?_map, List.getElem?_eq_getElem hjl]
    rfl
  · intro v' w' h1 h2
    have h4 : OwnI w' w.heap.size v' (l ++ m) := by
      unfold OwnI
      rw [List.length_append, List.map_append, ← hl]
      exact h1
    obtain ⟨A', c', rfl, hc', _⟩ := h4.form
    exact h A' _ c' w' h4 (List.length_append ..) hc' h2
set_option maxRecDepth 100000 in
set_option maxHeartbeats 2000000 in
theorem told_any {w : World} {B n c k0 n2 c2 n3 c3 : Nat} {A A2 A3 : Option Addr} {l : List Int} {x : Int} (ho : OwnI w B (.slice A n c) l) (hk0 : k0 = n ∨ k0 = c) (hB : B ≤ w.heap.size) (h2 : AwayI w (Value.slice A n c).ownBlock A2 l) (h3 : AwayI w (Value.slice A n c).ownBlock A3 l) (hn2 : n2 = l.length) (hn3 : n3 = l.length) (hb : n ≤ 100000000) :
    Calls Tryd.prog 23 #[.slice A n k0, .slice A2 n2 c2, .int .i64 x, .slice A3 n3 c3, .int .i64 x] w (fun e w' => e = .returned (.bool true) ∧ w.grownBy w' (Value.slice A n c).ownBlock) := by
  have hlen := ho.len
  have HS := Lib.hid (same_true (c := k0) (c' := c3) ho.reads h3.1 hlen.1 hn3 (by omega) rfl)
  have hlt := fun g hg => (ho.lt g hg).1
  have Hlt := Lib.hid hlt
  have hnc : n ≤ c := hlen.2.1
  have Hk0 := Lib.hid hk0
  have hnk : n ≤ k0 := by omega
  obtain ⟨oo, hoo⟩ : ∃ o, o = (Value.slice A n c).ownBlock := ⟨_, rfl⟩
  have Ho := Lib.hid ho
  have H23 := Lib.hid (And.intro h2 h3)
  have Hn := Lib.hid (And.intro hlen.1 (And.intro hn2 hn3))
  have Hoo := Lib.hid hoo
  rw [← hoo] at H23 Hlt ⊢
  have hxx : (x != x) = false := by simp
  have hA : 1 ≤ n → ∃ ad, A = some ad ∧ oo = some ad.block := fun h1 => by
    obtain ⟨ad, e, _⟩ := ho.reads.at_ (k := 0) (by omega)
    exact ⟨ad, e, by rw [hoo, e]; rfl⟩
  have HA := Lib.hid hA
  clear ho h2 h3 hlen hlt hn2 hn3 hoo hA hk0
  go_enter Tryd.func23, Tryd.ntmps23
  go_wp2_with ((go_at_call 20; refine num_any.mono ?_; rintro e w' ⟨rfl, rfl⟩))
  refine HS.out.mono ?_
  rintro e w' ⟨rfl, d, rfl⟩
  go_wp2_with fail
  go_loopg [11] n (fun k iv wr => ∃ (i : Nat) (L : List Int), iv = .int .i64 (i : Int) ∧ k = n - i ∧ i ≤ n ∧ Hid (L.length = n ∧ OwnI wr B (.slice A n c) L ∧ w.grownBy wr oo))
  case atStart => exact ⟨0, l, rfl, by omega, by omega, Lib.hid ⟨Hn.out.1.symm, Ho.out.drewN d, ⟨rfl, rfl, rfl, Nat.le_refl _, fun _ _ _ => rfl⟩⟩⟩
  case round =>
    obtain ⟨i, L, rfl, hk, hi, hL⟩ := hrel
    have Hk := Lib.hid hk
    clear hk
    by_cases hin : i < n
    · obtain ⟨ad, rfl, hooa⟩ := HA.out (by omega)
      have Hooa := Lib.hid hooa
      obtain ⟨hs1, hs2, hs3⟩ := hL.out.2.1.set_ i 99 (by rw [hL.out.1]; exact hin)
      have hii : (i : Int) < (n : Int) := by omega
      have Hs := Lib.hid (And.intro hs1 hs2)
      obtain ⟨ad', e', hb1, c0⟩ := hL.out.2.1.reads.at_ (k := i) (by rw [hL.out.1]; exact hin)
      injection e' with e'
      subst e'
      clear hs1 hs2 hooa hb1
      go_wp2_with fail
      go_roundg (n - (i + 1))
      case measure => have := Hk.out; omega
      case rel => exact ⟨i + 1, L.set i 99, rfl, rfl, by omega, Lib.hid ⟨by rw [List.length_set]; exact hL.out.1, Hs.out.1, hL.out.2.2.andThen Hs.out.2 (fun j hj => by rw [Hooa.out]; right; exact hj)⟩⟩
    · have hii : (n : Int) ≤ (i : Int) := by omega
      have Hcame := Lib.hid (show Came w oo (.slice A n k0) from fun g hg => .inl (by rw [Hoo.out]; exact (show (Value.slice A n c).ownBlock = some g by rw [← hg]; cases A <;> rfl).symm))
      go_wp2_with fail
      go_loopg [0, 12] 5 (fun k sv iv wr => ∃ (i n' k' : Nat) (A' : Option Addr) (L : List Int), sv = .slice A' n' k' ∧ iv = .int .i64 (i : Int) ∧ k = 5 - i ∧ i ≤ 5 ∧ n' = n + i ∧ Hid (L.length = n + i ∧ (∃ c', OwnI wr B (.slice A' n' c') L ∧ (k' = n' ∨ k' = c')) ∧ w.grownBy wr oo ∧ Came w oo (.slice A' n' k')))
      case atStart => exact ⟨0, n, k0, A, L, rfl, rfl, by omega, by omega, by omega, Lib.hid ⟨hL.out.1, ⟨c, hL.out.2.1, Hk0.out⟩, hL.out.2.2, Hcame.out⟩⟩
      case round =>
        obtain ⟨m, n', k', A', L', rfl, rfl, hk2, hm, hn', hL2⟩ := hrel
        have Hk2 := Lib.hid hk2
        have Hn' := Lib.hid hn'
        have hn'5 : n' ≤ 100000005 := by omega
        clear hk2 hn'
        by_cases hm5 : m < 5
        · have hmi : (m : Int) < 5 := by omega
          obtain ⟨c', hown', hkc⟩ := hL2.out.2.1
          have Hown := Lib.hid hown'
          clear hown'
          have hszw := hL2.out.2.2.1.size
          rcases hkc with rfl | rfl
          · go_wp2_with (refine wpI_grows rfl (.tmp 36) (.tmp 37) rfl B k' c' A' L' [98] (Hown.out.alloc _) rfl rfl rfl (by simp) (reads_single _ 98) (by have := hL2.out.1; omega) (by simp) ?_; intro A4 n4 c4 w4 ho4 hn4 hc4 hg4; have Ho4 := Lib.hid (And.intro ho4 (And.intro hn4 hg4)); clear ho4 hn4 hc4 hg4)
            have hgr : wr.grownBy w4 none := (World.grownBy_alloc wr (.cells #[.int .i64 98] 3) _).trans Ho4.out.2.2
            have H4 := Lib.hid (show w.grownBy w4 oo ∧ Came w oo (.slice A4 n4 c4) from ⟨hL2.out.2.2.1.andThen hgr (fun j hj => by cases hj), fun g hg => by
              have := (Ho4.out.1.lt g hg).1
              right
              simp at this
              omega⟩)
            have hBn : B ≤ (wr.alloc (.cells #[.int .i64 98] 3)).heap.size := by simp; omega
            have HB := Lib.hid hBn
            clear hgr hBn
            go_roundg (5 - (m + 1))
            case measure => have := Hk2.out; omega
            case rel => exact ⟨m + 1, n4, c4, A4, L' ++ [98], rfl, rfl, rfl, by omega, by have h1 := Ho4.out.2.1; have h2 := hL2.out.1; rw [List.length_singleton] at h1; omega, Lib.hid ⟨by have h2 := hL2.out.1; simp; omega, ⟨c4, Ho4.out.1.lower HB.out, .inr rfl⟩, H4.out⟩⟩
          · go_wp2_with (refine wpI_append rfl (.tmp 36) (.tmp 37) rfl B _ L' [98] (Hown.out.alloc _) rfl rfl rfl (reads_single _ 98) (by have := hL2.out.1; omega) (by simp) (by simp; omega) ?_; intro A4 n4 c4 w4 ho4 hn4 hc4 hg4 hw4 hb4; have Ho4 := Lib.hid (And.intro ho4 (And.intro hn4 (And.intro hg4 hw4))); clear ho4 hn4 hc4 hg4 hw4 hb4)
            have hgr := grown_on hL2.out.2.2.1 ((World.grownBy_alloc wr (.cells #[.int .i64 98] 3) _).trans Ho4.out.2.2.1) hL2.out.2.2.2
            have hcm : Came w oo (.slice A4 n4 c4) := came_on hszw hL2.out.2.2.2 (by rcases Ho4.out.2.2.2 with h | h; exact .inl h; exact .inr (.inr (by rw [h]; simp)))
            have H4 := Lib.hid (And.intro hgr hcm)
            clear hgr hcm
            go_roundg (5 - (m + 1))
            case measure => have := Hk2.out; omega
            case rel => exact ⟨m + 1, n4, c4, A4, L' ++ [98], rfl, rfl, rfl, by omega, by have h1 := Ho4.out.2.1; have h2 := hL2.out.1; rw [List.length_singleton] at h1; omega, Lib.hid ⟨by have h2 := hL2.out.1; simp; omega, ⟨c4, Ho4.out.1, .inr rfl⟩, H4.out⟩⟩
        · have hmi : (5 : Int) ≤ (m : Int) := by omega
          have hn5 : (4 : Int) < (n' : Int) := by have := Hn'.out; omega
          have HS2 := Lib.hid (same_true (c := c2) (c' := c3) (H23.out.1.grown hL2.out.2.2.1).1 (H23.out.2.grown hL2.out.2.2.1).1 Hn.out.2.1 Hn.out.2.2 (by have := Hn.out; omega) rfl)
          go_wp2_with fail
          refine HS2.out.mono ?_
          rintro e w' ⟨rfl, d2, rfl⟩
          go_wp2_with fail
          go_ret
          have hg := hL2.out.2.2.1
          exact ⟨rfl, ⟨hg.os, hg.tape, hg.output, hg.size, hg.block⟩⟩
end Go.Proofs.YtmjnhpagoboejaaDoor

/- ref.Short, Inverse, Joined. -/
namespace Go.Proofs.YtmjnhpagoboejaaDoor
open Go.RowKit
open Wd
set_option linter.unusedSimpArgs false
set_option linter.unusedVariables false

theorem bdrew {B : Nat} {w0 w : World} (h : Below B w0 w) (d : Nat) : Below B w0 (w.drewN d) := ⟨h.os, h.tape, h.output, h.size, h.block⟩
/-- ints of the call's own -/
def OutI (w : World) (l : List Int) (e : Ending) (w' : World) : Prop := ∃ A' n' c', e = .returned (.slice A' n' c') ∧ OwnI w' w.heap.size (.slice A' n' c') l ∧ Below w.heap.size w w'
set_option maxRecDepth 100000 in
set_option maxHeartbeats 2000000 in
theorem rshort_any {w : World} {B n c : Nat} {A : Option Addr} {l : List Int} (hr : ReadsI w B A l) (hB : B ≤ w.heap.size) (hn : n = l.length) (hl : LetL l) (hnl : n ≤ 100000000) :
    Calls Tryd.prog 24 #[.slice A n c] w (OutI w (short l)) := by
  have Hn := Lib.hid hn
  have Hl := Lib.hid hl
  have Hr := Lib.hid (hr.more hB)
  clear hn hl hr hB
  go_enter Tryd.func24, Tryd.ntmps24
  go_wp2_with fail
  go_loopg [3, 4] n (fun k sv iv wr => ∃ (i : Nat) (A' : Option Addr) (n' c' : Nat) (L : List Int), sv = .slice A' n' c' ∧ iv = .int .i64 (i : Int) ∧ k = n - i ∧ i ≤ n ∧ Hid (L = short (l.take i)) ∧ Hid (OwnI wr w.heap.size (.slice A' n' c') L ∧ Below w.heap.size w wr))
  case atStart => exact ⟨0, none, 0, 0, [], rfl, rfl, by omega, by omega, Lib.hid (by rw [List.take_zero]; rfl), Lib.hid ⟨OwnI.nil _ _, Below.refl _ _⟩⟩
  case round =>
    obtain ⟨i, A1, n1, c1, L, rfl, rfl, hk, hi, hL, hO⟩ := hrel
    have Hk := Lib.hid hk
    have hlen := hO.out.1.len
    obtain ⟨hn1, hn1c, hc1⟩ := hlen
    have hn1b : n1 ≤ 200000000 := by
      rw [hn1, hL.out]
      have h1 := onl_len_le (l.take i) []
      rw [List.length_take] at h1
      unfold short
      simp at h1
      omega
    unfold maxLen at hc1
    have Hn1 := Lib.hid hn1
    clear hk hn1
    have hsz := hO.out.2.size
    by_cases hin : i < n
    · have hil : i < l.length := by rw [← Hn.out]; exact hin
      have hr1 := Hr.out.below hO.out.2
      obtain ⟨ad, rfl, hb1, c0⟩ := hr1.at_ hil
      have hlet := Hl.out l[i] (List.getElem_mem hil)
      have Hst := Lib.hid (show short (l.take (i + 1)) = onl (short (l.take i)) [l[i]] from onl_step (o := []) hil)
      have hii : (i : Int) < (n : Int) := by omega
      generalize l[i] = k at *
      obtain ⟨hk0, hk1, hk2⟩ := hlet
      clear hb1 hil hr1
      rcases Nat.eq_zero_or_pos n1 with h0 | h0
      · have hLn : L = [] := List.eq_nil_of_length_eq_zero (by rw [← Hn1.out]; exact h0)
        have Hnew := Lib.hid (show short (l.take (i + 1)) = L ++ [k] by rw [Hst.out, ← hL.out, hLn]; rfl)
        subst h0
        clear hLn
        go_wp2_with (first | go_quiet (fail) | (refine wpI_append rfl (.tmp 33) (.tmp 38) rfl w.heap.size _ L [k] ((hO.out.1.drewN _).alloc _) rfl rfl rfl (reads_single _ k) (by have := Hn1.out; omega) (by simp) (by have := hO.out.2.size; simp; omega) ?_; intro A2 n2 c2 w2 ho2 hn2 hc2 hg2 hw2 hb2; have Ho2 := Lib.hid (And.intro ho2 (hb2 _ ((bdrew hO.out.2 _).alloc hsz _))); clear ho2 hn2 hc2 hg2 hw2 hb2))
        go_roundg (n - (i + 1))
        case measure => have := Hk.out; omega
        case rel => exact ⟨i + 1, A2, n2, c2, L ++ [k], rfl, rfl, rfl, by omega, Lib.hid Hnew.out.symm, Ho2⟩
      · have hLp : n1 - 1 < L.length := by have := Hn1.out; omega
        obtain ⟨bd, hbd, hb2, d0⟩ := (hO.out.1.reads).at_ hLp
        have hsp := last_split (l := L) (by have := Hn1.out; omega)
        have hidx : L.length - 1 = n1 - 1 := by have := Hn1.out; omega
        simp only [hidx] at hsp
        subst hbd
        obtain ⟨L0, hL0⟩ : ∃ L0, L0 = L.take (n1 - 1) := ⟨_, rfl⟩
        rw [← hL0] at hsp
        have hl0 : L0.length = n1 - 1 := by rw [hL0, List.length_take]; omega
        generalize L[n1 - 1] = x at *
        have s1 : ((n1 : Int) - 1).toNat = n1 - 1 := by omega
        rcases Decidable.em (x = -k) with hx | hx
        · have Hnew := Lib.hid (show short (l.take (i + 1)) = L0 by rw [Hst.out, ← hL.out, hsp]; exact onl_off hx)
          have Hown := Lib.hid (show OwnI wr w.heap.size (.slice (some bd) (n1 - 1) c1) L0 by have h := hO.out.1; rw [hsp] at h; have h2 := h.first; rw [hl0] at h2; exact h2)
          clear hsp hL0 hl0 hLp hb2 hidx
          subst hx
          go_wp2_with (go_quiet (fail))
          go_roundg (n - (i + 1))
          case measure => have := Hk.out; omega
          case rel => exact ⟨i + 1, some bd, n1 - 1, c1, L0, rfl, rfl, rfl, by omega, Lib.hid Hnew.out.symm, Lib.hid ⟨Hown.out.drewN _, bdrew hO.out.2 _⟩⟩
        · have Hnew := Lib.hid (show short (l.take (i + 1)) = L ++ [k] by rw [Hst.out, ← hL.out, hsp]; exact onl_on hx)
          have hxb : (x == -k) = false := by simp; exact hx
          clear hsp hL0 hl0 hLp hb2 hidx
          go_wp2_with (first | go_quiet (fail) | (refine wpI_append rfl (.tmp 33) (.tmp 38) rfl w.heap.size _ L [k] ((hO.out.1.drewN _).alloc _) rfl rfl rfl (reads_single _ k) (by have := Hn1.out; omega) (by simp) (by have := hO.out.2.size; simp; omega) ?_; intro A2 n2 c2 w2 ho2 hn2 hc2 hg2 hw2 hb2; have Ho2 := Lib.hid (And.intro ho2 (hb2 _ ((bdrew hO.out.2 _).alloc hsz _))); clear ho2 hn2 hc2 hg2 hw2 hb2))
          go_roundg (n - (i + 1))
          case measure => have := Hk.out; omega
          case rel => exact ⟨i + 1, A2, n2, c2, L ++ [k], rfl, rfl, rfl, by omega, Lib.hid Hnew.out.symm, Ho2⟩
    · have hii : (n : Int) ≤ (i : Int) := by omega
      have hfin : L = short l := by rw [hL.out, List.take_of_length_le]; have := Hn.out; omega
      have Hfin := Lib.hid hfin
      clear hfin
      go_wp2_with fail
      go_ret
      exact ⟨_, _, _, rfl, by rw [← Hfin.out]; exact hO.out.1, hO.out.2⟩
theorem inv_drop {l : List Int} {j : Nat} (h : j < l.length) : inv (l.drop j) = inv (l.drop (j + 1)) ++ [-l[j]] := by
  rw [List.drop_eq_getElem_cons h]
  unfold inv
  rw [List.map_cons, List.reverse_cons]
set_option maxRecDepth 100000 in
set_option maxHeartbeats 2000000 in
theorem rinv_any {w : World} {B n c : Nat} {A : Option Addr} {l : List Int} (hr : ReadsI w B A l) (hB : B ≤ w.heap.size) (hn : n = l.length) (hl : ∀ k ∈ l, -100 ≤ k ∧ k ≤ 100) (hnl : n ≤ 100000000) :
    Calls Tryd.prog 26 #[.slice A n c] w (OutI w (inv l)) := by
  have Hn := Lib.hid hn
  have Hl := Lib.hid hl
  have Hr := Lib.hid (hr.more hB)
  clear hn hl hr hB
  go_enter Tryd.func26, Tryd.ntmps26
  go_wp2_with fail
  go_loopg [3, 4] n (fun k sv iv wr => ∃ (j : Nat) (A' : Option Addr) (n' c' : Nat), sv = .slice A' n' c' ∧ iv = .int .i64 ((j : Int) - 1) ∧ k = j ∧ j ≤ n ∧ Hid (OwnI wr w.heap.size (.slice A' n' c') (inv (l.drop j)) ∧ Below w.heap.size w wr))
  case atStart => exact ⟨n, none, 0, 0, rfl, rfl, by omega, by omega, Lib.hid ⟨by rw [List.drop_of_length_le (by have := Hn.out; omega)]; exact OwnI.nil _ _, Below.refl _ _⟩⟩
  case round =>
    obtain ⟨j, A1, n1, c1, rfl, rfl, hk, hj, hO⟩ := hrel
    have Hk := Lib.hid hk
    clear hk
    have hsz := hO.out.2.size
    cases j with
    | succ j =>
      have hjl : j < l.length := by rw [← Hn.out]; omega
      obtain ⟨ad, rfl, hb1, c0⟩ := (Hr.out.below hO.out.2).at_ hjl
      have hlet := Hl.out l[j] (List.getElem_mem hjl)
      have Hst := Lib.hid (inv_drop hjl)
      have hlen := hO.out.1.len.1
      rw [inv_len, List.length_drop] at hlen
      have Hlen := Lib.hid hlen
      have hll : (inv (l.drop (j + 1))).length ≤ 1000000000 := by rw [inv_len, List.length_drop]; have := Hn.out; omega
      generalize l[j] = k at *
      rw [show ((j + 1 : Nat) : Int) - 1 = (j : Int) by omega]
      have hji : (0 : Int) ≤ (j : Int) := by omega
      have hji2 : (j : Int) < (n : Int) := by omega
      clear hb1 hjl hlen
      go_wp2_with (refine wpI_append rfl (.tmp 12) (.tmp 18) rfl w.heap.size _ _ [-k] (hO.out.1.alloc _) rfl rfl rfl (reads_single _ (-k)) hll (by simp) (by have := hO.out.2.size; simp; omega) ?_; intro A2 n2 c2 w2 ho2 hn2 hc2 hg2 hw2 hb2; have Ho2 := Lib.hid (And.intro ho2 (hb2 _ (hO.out.2.alloc hsz _))); clear ho2 hn2 hc2 hg2 hw2 hb2)
      go_roundg j
      case measure => have := Hk.out; omega
      case rel => exact ⟨j, A2, n2, c2, rfl, rfl, rfl, by omega, Lib.hid ⟨by rw [Hst.out]; exact Ho2.out.1, Ho2.out.2⟩⟩
    | zero =>
      rw [show ((0 : Nat) : Int) - 1 = -1 by omega]
      go_wp2_with fail
      go_ret
      exact ⟨_, _, _, rfl, hO.out.1, hO.out.2⟩
set_option maxRecDepth 100000 in
set_option maxHeartbeats 2000000 in
theorem rjoined_any {w : World} {B n c : Nat} {A : Option Addr} {rs : List SRow} (hr : ReadsL w B A rs) (hB : B ≤ w.heap.size) (hn : n = rs.length) (hnl : n ≤ 1000000000) (hf : (rs.map (fun r => r.2.2)).flatten.length ≤ 1000000000) :
    Calls Tryd.prog 63 #[.slice A n c] w (OutI w (rs.map (fun r => r.2.2)).flatten) := by
  have Hn := Lib.hid hn
  have Hf := Lib.hid hf
  have Hr := Lib.hid (hr.more hB)
  clear hn hr hB hf
  go_enter Tryd.func63, Tryd.ntmps63
  go_wp2_with fail
  go_loopg [3, 4] n (fun k sv iv wr => ∃ (i : Nat) (A' : Option Addr) (n' c' : Nat), sv = .slice A' n' c' ∧ iv = .int .i64 (i : Int) ∧ k = n - i ∧ i ≤ n ∧ Hid (OwnI wr w.heap.size (.slice A' n' c') ((rs.take i).map (fun r => r.2.2)).flatten ∧ Below w.heap.size w wr))
  case atStart => exact ⟨0, none, 0, 0, rfl, rfl, by omega, by omega, Lib.hid ⟨by rw [List.take_zero]; exact OwnI.nil _ _, Below.refl _ _⟩⟩
  case round =>
    obtain ⟨i, A1, n1, c1, rfl, rfl, hk, hi, hO⟩ := hrel
    have Hk := Lib.hid hk
    clear hk
    have hsz := hO.out.2.size
    by_cases hin : i < n
    · have hil : i < rs.length := by rw [← Hn.out]; exact hin
      have hrr := Hr.out.below hO.out.2
      obtain ⟨ad, rfl, hb1, c0⟩ := hrr.at_ hil
      have Hrow := Lib.hid (hrr.2 rs[i] (List.getElem_mem hil))
      have hsplit : ((rs.take (i + 1)).map (fun r => r.2.2)).flatten = ((rs.take i).map (fun r => r.2.2)).flatten ++ rs[i].2.2 := by
        rw [List.take_succ_eq_append_getElem hil, List.map_append, List.flatten_append]; simp
      have hle : ((rs.take (i + 1)).map (fun r => r.2.2)).flatten.length ≤ 1000000000 := by
        have h := Hf.out
        rw [← List.take_append_drop (i + 1) rs, List.map_append, List.flatten_append, List.length_append] at h
        omega
      have Hst := Lib.hid hsplit
      rw [hsplit, List.length_append] at hle
      have h1 : ((rs.take i).map (fun r => r.2.2)).flatten.length ≤ 1000000000 := by omega
      have h2 : rs[i].2.2.length ≤ 1000000000 := by omega
      have hii : (i : Int) < (n : Int) := by omega
      obtain ⟨m, hm⟩ : ∃ m, m = rs[i].2.2 := ⟨_, rfl⟩
      rw [← hm] at c0 Hrow Hst h2
      generalize rs[i].1 = a1 at *
      generalize rs[i].2.1 = d1 at *
      clear hil hb1 hle hsplit hm hrr
      go_wp2_with (refine wpI_append rfl (.tmp 11) (.tmp 15) rfl w.heap.size _ _ m hO.out.1 rfl rfl rfl Hrow.out h1 h2 hsz ?_; intro A2 n2 c2 w2 ho2 hn2 hc2 hg2 hw2 hb2; have Ho2 := Lib.hid (And.intro ho2 (hb2 _ hO.out.2)); clear ho2 hn2 hc2 hg2 hw2 hb2)
      go_roundg (n - (i + 1))
      case measure => have := Hk.out; omega
      case rel => exact ⟨i + 1, A2, n2, c2, rfl, rfl, rfl, by omega, Lib.hid ⟨by rw [Hst.out]; exact Ho2.out.1, Ho2.out.2⟩⟩
    · have hii : (n : Int) ≤ (i : Int) := by omega
      have hfin : rs.take i = rs := List.take_of_length_le (by have := Hn.out; omega)
      have Hfin := Lib.hid hfin
      clear hfin
      go_wp2_with fail
      go_ret
      exact ⟨_, _, _, rfl, by have h := hO.out.1; rw [Hfin.out] at h; exact h, hO.out.2⟩
end Go.Proofs.YtmjnhpagoboejaaDoor

/- What a law holds in its hand. -/
namespace Go.Proofs.YtmjnhpagoboejaaDoor
open Go.RowKit
open Wd
set_option linter.unusedSimpArgs false
set_option linter.unusedVariables false

/-- ints below block B -/
def Rd (w : World) (B : Nat) (A : Option Addr) (l : List Int) : Prop := ReadsI w B A l ∧ B ≤ w.heap.size
theorem Rd.next {w w' : World} {B : Nat} {A : Option Addr} {l : List Int} (h : Rd w B A l) (hb : Below w.heap.size w w') : Rd w' B A l := ⟨h.1.below (hb.mono h.2), Nat.le_trans h.2 hb.size⟩
theorem Rd.far {w w' : World} {B lo : Nat} {A : Option Addr} {l : List Int} (h : Rd w B A l) (hb : Below lo w w') (hB : B ≤ lo) : Rd w' B A l := ⟨h.1.below (hb.mono hB), Nat.le_trans h.2 hb.size⟩
/-- a row of one's own in the blocks from lo to hi -/
def Got (w : World) (lo hi : Nat) (A : Option Addr) (n k : Nat) (l : List Int) : Prop := (lo ≤ hi ∧ hi ≤ w.heap.size) ∧ ∃ c, OwnI w lo (.slice A n c) l ∧ (k = n ∨ k = c) ∧ ∀ g, (Value.slice A n c).ownBlock = some g → g < hi
theorem OwnI.keptTo {w w' : World} {B hi n c : Nat} {A : Option Addr} {l : List Int} (h : OwnI w B (.slice A n c) l) (hh : ∀ g, (Value.slice A n c).ownBlock = some g → w'.heap[g]? = w.heap[g]?) : OwnI w' B (.slice A n c) l := by
  refine ⟨h.1, ?_⟩
  rcases h.2 with h' | ⟨g, cap, cur, hv, hg, hh', r⟩
  · exact .inl h'
  · exact .inr ⟨g, cap, cur, hv, hg, (hh g (by rw [hv]; rfl)).trans hh', r⟩
theorem Got.of_res {w : World} {lo n : Nat} {A : Option Addr} {l : List Int} (h : ResI w lo A n l) (hlo : lo ≤ w.heap.size) : Got w lo w.heap.size A n n l := by
  obtain ⟨hn, c, ho, hc⟩ := h
  exact ⟨⟨hlo, Nat.le_refl _⟩, c, ho, .inl rfl, fun g hg => (ho.lt g hg).2⟩
theorem Got.of_own {w : World} {lo n c : Nat} {A : Option Addr} {l : List Int} (h : OwnI w lo (.slice A n c) l) (hlo : lo ≤ w.heap.size) : Got w lo w.heap.size A n c l := ⟨⟨hlo, Nat.le_refl _⟩, c, h, .inr rfl, fun g hg => (h.lt g hg).2⟩
theorem Got.none_ {w : World} {lo hi : Nat} (h1 : lo ≤ hi) (h2 : hi ≤ w.heap.size) : Got w lo hi none 0 0 [] := ⟨⟨h1, h2⟩, 0, OwnI.nil w lo, .inr rfl, fun g hg => by cases hg⟩
theorem Got.next {w w' : World} {lo hi n k : Nat} {A : Option Addr} {l : List Int} (h : Got w lo hi A n k l) (hb : Below w.heap.size w w') : Got w' lo hi A n k l := by
  obtain ⟨⟨h1, h2⟩, c, ho, hk, hg⟩ := h
  exact ⟨⟨h1, Nat.le_trans h2 hb.size⟩, c, ho.keptTo (hi := hi) (fun g hg' => hb.block g (by have := hg g hg'; omega)), hk, hg⟩
theorem Got.far {w w' : World} {lo hi n k b : Nat} {A : Option Addr} {l : List Int} (h : Got w lo hi A n k l) (hb : Below b w w') (hhb : hi ≤ b) : Got w' lo hi A n k l := by
  obtain ⟨⟨h1, h2⟩, c, ho, hk, hg⟩ := h
  exact ⟨⟨h1, Nat.le_trans h2 hb.size⟩, c, ho.keptTo (hi := hi) (fun g hg' => hb.block g (by have := hg g hg'; omega)), hk, hg⟩
theorem Got.len {w : World} {lo hi n k : Nat} {A : Option Addr} {l : List Int} (h : Got w lo hi A n k l) : n = l.length ∧ n ≤ k ∧ k ≤ 9223372036854775807 := by
  obtain ⟨_, c, ho, hk, _⟩ := h
  have h1 := ho.len
  unfold maxLen at h1
  omega
theorem Got.reads {w : World} {lo hi n k : Nat} {A : Option Addr} {l : List Int} (h : Got w lo hi A n k l) : ReadsI w hi A l := by
  obtain ⟨⟨h1, h2⟩, c, ho, hk, hg⟩ := h
  have hr := ho.reads
  refine ⟨hr.1, fun hn => ?_⟩
  obtain ⟨ad, e, hb, hc⟩ := hr.2 hn
  exact ⟨ad, e, hg ad.block (by rw [e]; rfl), hc⟩
theorem Got.rd {w : World} {lo hi n k : Nat} {A : Option Addr} {l : List Int} (h : Got w lo hi A n k l) : Rd w hi A l := ⟨h.reads, h.1.2⟩
/-- nothing has changed but in the blocks from lo to hi, and new ones -/
def Outside (lo hi : Nat) (w w' : World) : Prop := ∃ o, w.grownBy w' o ∧ ∀ g, o = some g → lo ≤ g ∧ g < hi
theorem Outside.below {lo hi : Nat} {w w' : World} (h : Outside lo hi w w') (hl : lo ≤ w.heap.size) : Below lo w w' := by
  obtain ⟨o, hg, ho⟩ := h
  exact ⟨hg.os, hg.tape, hg.output, hg.size, fun i hi => hg.block i (by omega) (fun e => by have := ho i e.symm; omega)⟩
theorem Outside.size {lo hi : Nat} {w w' : World} (h : Outside lo hi w w') : w.heap.size ≤ w'.heap.size := by
  obtain ⟨o, hg, ho⟩ := h
  exact hg.size
theorem Got.outside {w w' : World} {lo hi a b n k : Nat} {A : Option Addr} {l : List Int} (h : Got w lo hi A n k l) (ho : Outside a b w w') (hd : b ≤ lo) : Got w' lo hi A n k l := by
  obtain ⟨o, hg, hob⟩ := ho
  obtain ⟨⟨h1, h2⟩, c, ho, hk, hgb⟩ := h
  refine ⟨⟨h1, Nat.le_trans h2 hg.size⟩, c, ho.keptTo (hi := hi) (fun g hg' => ?_), hk, hgb⟩
  have h3 := ho.lt g hg'
  exact hg.block g h3.2 (fun e => by have := hob g e.symm; omega)
/-- ints that lie outside the blocks from lo to hi -/
def AwayX (w : World) (lo hi : Nat) (A : Option Addr) (l : List Int) : Prop := ∀ o, (∀ g, o = some g → lo ≤ g ∧ g < hi) → AwayI w o A l
theorem Rd.away {w : World} {B lo hi : Nat} {A : Option Addr} {l : List Int} (h : Rd w B A l) (hB : B ≤ lo) : AwayX w lo hi A l := fun o ho => by
  refine ⟨h.1.more h.2, fun hn ad e he => ?_⟩
  obtain ⟨ad', e', hb, _⟩ := h.1.2 hn
  rw [e] at e'
  injection e' with e'
  subst e'
  have := ho ad.block he.symm
  omega
theorem Got.away {w : World} {lo hi a b n k : Nat} {A : Option Addr} {l : List Int} (h : Got w lo hi A n k l) (hb : b ≤ lo) : AwayX w a b A l := fun o ho => by
  obtain ⟨⟨h1, h2⟩, c, hown, hk, hgb⟩ := h
  refine AwayI.of_own hown (fun g hg => ?_)
  have := ho g hg
  omega
theorem awayX_none (w : World) (lo hi : Nat) (A : Option Addr) : AwayX w lo hi A [] := fun o _ => AwayI.none_ w o A
theorem told_got {w : World} {lo hi n k n2 c2 n3 c3 : Nat} {A A2 A3 : Option Addr} {l l2 l3 : List Int} {x : Int} (h : Got w lo hi A n k l) (h2 : AwayX w lo hi A2 l2) (h3 : AwayX w lo hi A3 l3) (e2 : l2 = l) (e3 : l3 = l) (hn2 : n2 = l2.length) (hn3 : n3 = l3.length) (hb : n ≤ 100000000) :
    Calls Tryd.prog 23 #[.slice A n k, .slice A2 n2 c2, .int .i64 x, .slice A3 n3 c3, .int .i64 x] w (fun e w' => e = .returned (.bool true) ∧ Outside lo hi w w') := by
  subst e2 e3
  obtain ⟨⟨h1, h4⟩, c, ho, hk, hg⟩ := h
  have hob : ∀ g, (Value.slice A n c).ownBlock = some g → lo ≤ g ∧ g < hi := fun g h => ⟨(ho.lt g h).1, hg g h⟩
  refine (told_any ho hk (by omega) (h2 _ hob) (h3 _ hob) hn2 hn3 hb).mono ?_
  rintro e w' ⟨rfl, hgr⟩
  exact ⟨rfl, _, hgr, hob⟩
/-- the table, and its block -/
def TabX (B : Nat) (w : World) : Prop := Tab B w ∧ B ≤ w.heap.size
theorem TabX.next {w w' : World} {B : Nat} (h : TabX B w) (hb : Below w.heap.size w w') : TabX B w' := ⟨h.1.below (hb.mono h.2) (Nat.le_refl _), Nat.le_trans h.2 hb.size⟩
theorem TabX.far {w w' : World} {B b : Nat} (h : TabX B w) (hb : Below b w w') (hB : B ≤ b) : TabX B w' := ⟨h.1.below hb hB, Nat.le_trans h.2 hb.size⟩
theorem lent_rd {w : World} {B n c : Nat} {A : Option Addr} {l : List Int} (h : Rd w B A l) (hn : n = l.length) (hb : n ≤ 100000000) :
    Calls Tryd.prog 13 #[.slice A n c] w (fun e w' => ∃ A' c', e = .returned (.slice A' n c') ∧ n + 1 ≤ c' ∧ c' ≤ 9223372036854775807 ∧ Rd w' w'.heap.size A' (l ++ [771]) ∧ Below w.heap.size w w') := by
  refine (lent_any h.1 h.2 hn hb).mono ?_
  rintro e w' ⟨A', c', rfl, hc, ho, hb⟩
  exact ⟨A', c', rfl, hc, ho.len.2.2, ⟨ho.reads, Nat.le_refl _⟩, hb⟩
theorem Rd.cut {w : World} {B : Nat} {A : Option Addr} {l m : List Int} (h : Rd w B A (l ++ m)) : Rd w B A l := ⟨h.1.take, h.2⟩
theorem much_one {w : World} {B n c : Nat} {A : Option Addr} {l : List Int} (h : Rd w B A l) (hn : n = l.length) (hb : n ≤ 1000000000000000) :
    Calls Tryd.prog 11 #[.slice (some ⟨w.heap.size, 0, none⟩) 1 1] (w.alloc (.cells #[.slice A n c] 22)) (fun e w' => e = .returned (.bool (decide ((9000 : Int) < (min n 10000 : Nat)))) ∧ Below w.heap.size w w') := by
  subst hn
  refine (much_any (n := 1) (c := 1) (row_one w (A, c, l) h.1 h.2) rfl (by decide) (fun r hr => by rw [List.mem_singleton.1 hr]; exact hb)).mono ?_
  rintro e w' ⟨rfl, rfl⟩
  refine ⟨?_, (Below.refl _ _).alloc (Nat.le_refl _) _⟩
  have : muchN (List.map (fun r : SRow => r.2.2) [(A, c, l)]) = min l.length 10000 := by simp [muchN]
  rw [this]
/-- ints that lie in the blocks from lo to hi -/
def Rng (w : World) (lo hi : Nat) (A : Option Addr) (l : List Int) : Prop := (lo ≤ hi ∧ Rd w hi A l) ∧ (1 ≤ l.length → ∀ ad, A = some ad → lo ≤ ad.block)
theorem Got.block_ge {w : World} {lo hi n k : Nat} {A : Option Addr} {l : List Int} (h : Got w lo hi A n k l) (hl : 1 ≤ l.length) : ∀ ad, A = some ad → lo ≤ ad.block := by
  obtain ⟨_, c, ho, _, _⟩ := h
  intro ad e
  exact (ho.lt ad.block (by rw [e]; rfl)).1
theorem Got.part {w w' : World} {lo hi n k : Nat} {A A1 : Option Addr} {l m : List Int} (h : Got w lo hi A n k l) (hr : ReadsI w' hi A1 m) (hb : Below w.heap.size w w') (hm : m.length ≤ l.length) (hp : ∀ a1, A1 = some a1 → ∃ a, A = some a ∧ a1.block = a.block) : Rng w' lo hi A1 m := by
  refine ⟨⟨h.1.1, hr, Nat.le_trans h.1.2 hb.size⟩, fun hl ad e => ?_⟩
  obtain ⟨a, ea, eb⟩ := hp ad e
  rw [eb]
  exact h.block_ge (by omega) a ea
theorem Rng.next {w w' : World} {lo hi : Nat} {A : Option Addr} {l : List Int} (h : Rng w lo hi A l) (hb : Below w.heap.size w w') : Rng w' lo hi A l := ⟨⟨h.1.1, h.1.2.next hb⟩, h.2⟩
theorem Rng.far {w w' : World} {lo hi b : Nat} {A : Option Addr} {l : List Int} (h : Rng w lo hi A l) (hb : Below b w w') (hB : hi ≤ b) : Rng w' lo hi A l := ⟨⟨h.1.1, h.1.2.far hb hB⟩, h.2⟩
theorem Rng.outside {w w' : World} {lo hi a b : Nat} {A : Option Addr} {l : List Int} (h : Rng w lo hi A l) (ho : Outside a b w w') (hd : b ≤ lo) : Rng w' lo hi A l := by
  obtain ⟨o, hg, hob⟩ := ho
  refine ⟨⟨h.1.1, ⟨h.1.2.1.1, fun hn => ?_⟩, Nat.le_trans h.1.2.2 hg.size⟩, h.2⟩
  obtain ⟨ad, e, hb, hc⟩ := h.1.2.1.2 hn
  refine ⟨ad, e, hb, fun j u hu => ?_⟩
  rw [← hc j u hu]
  refine World.cell?_of_block ?_
  rw [block_of_add]
  refine hg.block ad.block (by have := h.1.2.2; omega) (fun eo => ?_)
  have h1 := h.2 hn ad e
  have h2 := hob _ eo.symm
  omega
theorem Rng.reads {w : World} {lo hi : Nat} {A : Option Addr} {l : List Int} (h : Rng w lo hi A l) : ReadsI w hi A l := h.1.2.1
end Go.Proofs.YtmjnhpagoboejaaDoor

/- The words' laws: what the rows list, opened; a slice of ints opened; a world for the witness. -/
namespace Go.Proofs.YtmjnhpagoboejaaDoor.Laid
open Go.ChangeShapes Go.WideShapes Go.ChangeAt Go.RowKit
open Wd

theorem gTab : Tryd.prog.globalNamed "internal/strconv.uint64pow10" = some 3 := by kernel_rfl
theorem gTabType : (Tryd.prog.globals[3]?).map (·.type) = some 151 := by kernel_rfl
theorem cells151 : Tryd.prog.cellsOf 151 = 20 := by kernel_rfl
theorem cells57 : Tryd.prog.cellsOf 57 = 1 := by kernel_rfl
theorem cells3 : Tryd.prog.cellsOf 3 = 1 := by kernel_rfl
theorem cells22 : Tryd.prog.cellsOf 22 = 1 := by kernel_rfl
theorem pow10_is : Rows.laid_internal_strconv_uint64pow10 (H := Unit) = Lib.tabData .u64 Lib.pow10Tab := by kernel_rfl
/-- the three tables -/
def L3 : List (String × DataW Unit) := [("math/bits.deBruijn32tab", Rows.laid_math_bits_deBruijn32tab), ("math/bits.deBruijn64tab", Rows.laid_math_bits_deBruijn64tab), ("internal/strconv.uint64pow10", Rows.laid_internal_strconv_uint64pow10)]
theorem table {W : World} (h : laidMetH Tryd.prog L3 W) : TabX W.heap.size W := by
  have h1 := h.filter (fun x => x.1 == "internal/strconv.uint64pow10")
  have e : L3.filter (fun x => x.1 == "internal/strconv.uint64pow10") = [("internal/strconv.uint64pow10", Lib.tabData .u64 Lib.pow10Tab)] := by
    rw [← pow10_is]
    rfl
  rw [e, Go.MakeChecks.laidMetH_plain _ _ _ (by kernel_rfl)] at h1
  have ht : Lib.TabIs Tryd.prog W "internal/strconv.uint64pow10" .u64 Lib.pow10Tab := Lib.tabIs_of_head (rest := []) gTab gTabType Tryd.underlying151 Tryd.underlying57 cells57 cells151 h1
  exact ⟨Lib.tabBelow_of_tabIs ht, Nat.le_refl _⟩
theorem bulk_lits {H : Type} (zs : List Int) : Rows.uptoBulkAll (lits (H := H) .i64 zs) = zs.length := by
  induction zs with
  | nil => rfl
  | cons z r ih =>
    unfold lits at ih ⊢
    simp only [List.map_cons, Rows.uptoBulkAll, Rows.uptoBulk, ih, List.length_cons]
    omega
section
variable {H : Type} {enc : TypeId × Value → H} {w : World} {base : Nat}
set_option maxRecDepth 100000 in
/-- a slice of ints that came in -/
theorem open_intsR {v : Value} {d : DataW H} {p : List MemPlace} (hval : Value.okWide Tryd.prog w .any base 22 v) (h : DataW.Trod enc Tryd.prog w 0 (fun _ => true) true 22 v d p) :
    ∃ (A : Option Addr) (n c : Nat) (l : List Int), v = .slice A n c ∧ n ≤ c ∧ c ≤ 9223372036854775807 ∧ n = l.length ∧ Rd w w.heap.size A l ∧ Wf l ∧ n ≤ Rows.uptoBulk d := by
  obtain ⟨a1, len0, cap0, rfl⟩ := okWide_slice Tryd.underlying22 hval
  obtain ⟨fuel, hf⟩ := h
  rcases open_ints Tryd.underlying22 Tryd.underlying3 cells3 hf with ⟨hcs, hx⟩ | ⟨a, len, cap, zs, hcs, hb, hl, hm, hz, hx, hc, hw⟩
  · simp [Value.cells] at hcs
    obtain ⟨rfl, rfl, rfl⟩ := hcs
    exact ⟨none, 0, 0, [], rfl, Nat.le_refl _, by decide, rfl, ⟨ReadsI.none_ _ _ _, Nat.le_refl _⟩, (fun k hk => by cases hk), Nat.zero_le _⟩
  · simp [Value.cells] at hcs
    obtain ⟨rfl, rfl, rfl⟩ := hcs
    simp only [Prod.mk.injEq] at hx
    obtain ⟨rfl, rfl⟩ := hx
    have hzl : zs.length = cap0 := by simpa using hz
    have hnl : (zs.take len0).length = len0 := by rw [List.length_take]; omega
    refine ⟨some a, len0, cap0, zs.take len0, rfl, hl, hm, hnl.symm, ⟨⟨by simp, fun hn => ⟨a, rfl, ?_, fun j u hu => ?_⟩⟩, Nat.le_refl _⟩, fun k hk => ?_, ?_⟩
    · have := block_lt_of_cell (hc 0 (by omega))
      rwa [block_of_add] at this
    · have hj := (List.getElem?_eq_some_iff.1 hu).1
      rw [List.length_map, hnl] at hj
      rw [hc j (by omega)]
      rw [List.getElem?_map, List.getElem?_take, if_pos hj, List.getElem?_eq_getElem (by omega)] at hu
      rw [List.getD_eq_getElem?_getD, List.getElem?_eq_getElem (by omega)]
      exact hu
    · exact bounds_i64 (hw k (List.mem_of_mem_take hk))
    · show len0 ≤ Rows.uptoBulk (.slice (lits .i64 (zs.take len0)) (lits .i64 (zs.drop len0)))
      simp only [Rows.uptoBulk, bulk_lits, hnl]
      omega
end
def tab32 : Array Value := #[0, 1, 28, 2, 29, 14, 24, 3, 30, 22, 20, 15, 25, 17, 4, 8, 31, 27, 13, 23, 21, 19, 16, 7, 26, 12, 18, 6, 11, 5, 10, 9].map (Value.int .u8)
def tab64 : Array Value := #[0, 1, 56, 2, 57, 49, 28, 3, 61, 58, 42, 50, 38, 29, 17, 4, 62, 47, 59, 36, 45, 43, 51, 22, 53, 39, 33, 30, 24, 18, 12, 5, 63, 55, 48, 27, 60, 41, 37, 16, 46, 35, 44, 21, 52, 32, 23, 11, 54, 26, 40, 15, 34, 20, 31, 10, 25, 14, 19, 9, 13, 8, 7, 6].map (Value.int .u8)
def tabPow : Array Value := ((List.range 20).map fun i => Value.int .u64 ((10 ^ i : Nat) : Int)).toArray
/-- a world for the witness: the settled one, the tables holding what their initialisers lay -/
noncomputable def laidWorld (os : Os) : World :=
  { World.holding Tryd.prog os ⟨#[], #[], []⟩ with heap := (((World.holding Tryd.prog os ⟨#[], #[], []⟩).heap.modify 3 (fun o => match o with | .cells _ t frozen => .cells tabPow t frozen | o => o)).modify 6 (fun o => match o with | .cells _ t frozen => .cells tab32 t frozen | o => o)).modify 7 (fun o => match o with | .cells _ t frozen => .cells tab64 t frozen | o => o) }
end Go.Proofs.YtmjnhpagoboejaaDoor.Laid

/- Slices of words of one's own. -/
namespace Go.Proofs.YtmjnhpagoboejaaDoor
open Go.RowKit
open Wd
set_option linter.unusedSimpArgs false
set_option linter.unusedVariables false

theorem sv_one (rs : List SRow) : ∀ u ∈ rs.map sv, u.oneCell' = true := by
  intro u hu
  obtain ⟨r, _, rfl⟩ := List.mem_map.1 hu
  rfl
theorem infoSl : (Tryd.prog.info? 22).map (fun i => (i.zero, i.size, i.bytes)) = some (some (.slice none 0 0), 1, 24) := by kernel_rfl
/-- slices in a row of one's own -/
def OwnL (w : World) (B : Nat) (v : Value) (rs : List SRow) : Prop := w.ownsRow B 22 1 v rs.length (rs.map sv)
section
variable {w w' : World} {B B' : Nat} {v : Value} {rs : List SRow}
theorem OwnL.form (h : OwnL w B v rs) : ∃ A c, v = .slice A rs.length c ∧ rs.length ≤ c ∧ c ≤ maxLen := by
  rcases h.2 with ⟨rfl, h0⟩ | ⟨g, cap, cur, rfl, _, _, hc, hm, _⟩
  · exact ⟨none, 0, by rw [h0], by omega, by unfold maxLen; omega⟩
  · exact ⟨_, cap, rfl, hc, hm⟩
theorem OwnL.alloc (h : OwnL w B v rs) (o : Obj) : OwnL (w.alloc o) B v rs := World.ownsRow.alloc h o
theorem OwnL.nil (w : World) (B : Nat) : OwnL w B (.slice none 0 0) [] := World.ownsRow_nil w B _ 1
theorem OwnL.kept (h : OwnL w B v rs) (hb : Below w.heap.size w w') : OwnL w' B v rs := by
  refine ⟨h.1, ?_⟩
  rcases h.2 with h' | ⟨g, cap, cur, hv, hg, hh, r⟩
  · exact .inl h'
  · exact .inr ⟨g, cap, cur, hv, hg, (hb.block g (Array.getElem?_eq_some_iff.1 hh).1).trans hh, r⟩
theorem OwnL.lt (h : OwnL w B v rs) : ∀ g, v.ownBlock = some g → B ≤ g ∧ g < w.heap.size := fun g hg => World.ownsRow.lt h g hg
/-- a row of slices lies in another block than a row of ints -/
theorem own_ne {v2 : Value} {l : List Int} (h : OwnI w B v2 l) (h' : OwnL w B' v rs) : ∀ g, v2.ownBlock = some g → v.ownBlock ≠ some g := by
  intro g hg hg'
  rcases h.2 with ⟨rfl, _⟩ | ⟨g1, _, _, rfl, _, hh, _⟩
  · cases hg
  · rcases h'.2 with ⟨rfl, _⟩ | ⟨g2, _, _, rfl, _, hh', _⟩
    · cases hg'
    · have e1 : g1 = g := by simpa [Value.ownBlock] using hg
      have e2 : g2 = g := by simpa [Value.ownBlock] using hg'
      subst e1 e2
      rw [hh] at hh'
      injection hh' with hh'
      injection hh' with _ ht
      revert ht
      decide
theorem OwnL.reads {A : Option Addr} {n c : Nat} (h : OwnL w B (.slice A n c) rs) : Reads w w.heap.size 1 A rs.length (rs.map sv) ∧ n = rs.length := by
  obtain ⟨A', c', e, _, _⟩ := h.form
  injection e with e1 e2 e3
  subst e2
  exact ⟨Reads.of_own h, rfl⟩
end
theorem reads_singleL (w : World) (r : SRow) : Reads (w.alloc (.cells #[.slice r.1 r.2.2.length r.2.1] 22)) (w.heap.size + 1) 1 (some ⟨w.heap.size, 0, none⟩) 1 ([r].map sv) := by
  refine ⟨rfl, fun _ => ⟨_, rfl, Nat.lt_succ_self _, fun j u hu => ?_⟩⟩
  have hb := Blk.new w 22 #[.slice r.1 r.2.2.length r.2.1]
  match j, hu with
  | 0, hu => rw [Addr.add_zero', hb.cell 0]; exact hu
  | j + 1, hu => simp at hu
theorem wpL_append {w : World} {ops : Array Oper} {rest : List Oper} {o : Oper} {a : Act} {Q : Exit → Act → World → Prop} (hgd : o.guard = none) (s x : Operand)
    (ho : o.op = .call { callee := .builtin .append, args := #[s, x], argTypes := #[46, 46] }) (B : Nat) (v : Value) (rs ms : List SRow) (hown : OwnL w B v rs) (hs : a.eval s = v)
    {B' : Nat} {A : Option Addr} {k c : Nat} (hx : a.eval x = .slice A k c) (hk : k = ms.length) (hr : Reads w B' 1 A ms.length (ms.map sv)) (hlen : rs.length ≤ 1000000000) (hlm : ms.length ≤ 1000000000) (hbase : B ≤ w.heap.size)
    (h : ∀ A' n' c' w', OwnL w' B (.slice A' n' c') (rs ++ ms) → n' = rs.length + ms.length → n' ≤ c' → w.grownBy w' v.ownBlock → (∀ w0, Below B w0 w → Below B w0 w') → wpList Tryd.prog ops Q rest (a.put o.dst (.slice A' n' c')) w') :
    wpList Tryd.prog ops Q (o :: rest) a w := by
  obtain ⟨i0, hi, hz0, hz1, hz2⟩ := info_parts infoSl
  subst hk
  refine wpList_append_any _ hgd s x 46 ho B 22 i0 (.slice none 0 0) 1 24 Tryd.underlying46 hi hz0 hz1 hz2 rfl (by decide) v rs.length (rs.map sv) hs hown _ _ ms.length c (ms.map sv) hx hr (sv_one _) (by unfold maxLen; omega) (by omega) hbase ?_
  intro v' w' h1 h2 h3
  have h4 : OwnL w' B v' (rs ++ ms) := by
    unfold OwnL
    rw [List.length_append, List.map_append]
    exact h1
  obtain ⟨A', c', rfl, hc', _⟩ := h4.form
  exact h A' _ c' w' h4 (List.length_append ..) hc' h2 (fun w0 hb => hb.grown h2 hbase (fun k hk => (World.ownsRow.lt hown k hk).1))
/-- words that were lent, in a row of one's own -/
def LentOwn (w : World) (B : Nat) (v : Value) (rs : List SRow) : Prop := OwnL w B v rs ∧ ∀ r ∈ rs, OwnI w B (.slice r.1 (r.2.2.length + 1) r.2.1) (r.2.2 ++ [771]) ∧ r.2.2.length + 1 ≤ r.2.1 ∧ r.2.1 ≤ 9223372036854775807
theorem LentOwn.step {w w2 w3 : World} {B : Nat} {v v' : Value} {rs : List SRow} {r : SRow} (h : LentOwn w B v rs) (hb2 : Below w.heap.size w w2) (hB : B ≤ w.heap.size) (hn : OwnI w2 w.heap.size (.slice r.1 (r.2.2.length + 1) r.2.1) (r.2.2 ++ [771])) (hc : r.2.2.length + 1 ≤ r.2.1 ∧ r.2.1 ≤ 9223372036854775807)
    (ho3 : OwnL w3 B v' (rs ++ [r])) (hg : (w2.alloc (.cells #[.slice r.1 r.2.2.length r.2.1] 22)).grownBy w3 v.ownBlock) : LentOwn w3 B v' (rs ++ [r]) := by
  have hv : OwnL (w2.alloc (.cells #[.slice r.1 r.2.2.length r.2.1] 22)) B v rs := (h.1.kept hb2).alloc _
  refine ⟨ho3, fun x hx => ?_⟩
  rcases List.mem_append.1 hx with hx | hx
  · have h1 := h.2 x hx
    have h2 := (h1.1.kept hb2).alloc (.cells #[.slice r.1 r.2.2.length r.2.1] 22)
    exact ⟨h2.grown hg (fun g hg' => own_ne h2 hv g hg'), h1.2⟩
  · rw [List.mem_singleton.1 hx]
    have h2 := (hn.alloc (.cells #[.slice r.1 r.2.2.length r.2.1] 22)).lower hB
    exact ⟨h2.grown hg (fun g hg' => own_ne h2 hv g hg'), hc⟩
/-- the same, to read -/
def LentL (w : World) (B : Nat) (A : Option Addr) (rs : List SRow) : Prop := Reads w B 1 A rs.length (rs.map sv) ∧ B ≤ w.heap.size ∧ ∀ r ∈ rs, ReadsI w B r.1 (r.2.2 ++ [771]) ∧ r.2.2.length + 1 ≤ r.2.1 ∧ r.2.1 ≤ 9223372036854775807
theorem LentOwn.lent {w : World} {B n c : Nat} {A : Option Addr} {rs : List SRow} (h : LentOwn w B (.slice A n c) rs) : LentL w w.heap.size A rs ∧ n = rs.length := ⟨⟨h.1.reads.1, Nat.le_refl _, fun r hr => ⟨(h.2 r hr).1.reads, (h.2 r hr).2⟩⟩, h.1.reads.2⟩
theorem LentL.next {w w' : World} {B : Nat} {A : Option Addr} {rs : List SRow} (h : LentL w B A rs) (hb : Below w.heap.size w w') : LentL w' B A rs := ⟨h.1.below (hb.mono h.2.1), Nat.le_trans h.2.1 hb.size, fun r hr => ⟨(h.2.2 r hr).1.below (hb.mono h.2.1), (h.2.2 r hr).2⟩⟩
theorem LentL.far {w w' : World} {B b : Nat} {A : Option Addr} {rs : List SRow} (h : LentL w B A rs) (hb : Below b w w') (hB : B ≤ b) : LentL w' B A rs := ⟨h.1.below (hb.mono hB), Nat.le_trans h.2.1 hb.size, fun r hr => ⟨(h.2.2 r hr).1.below (hb.mono hB), (h.2.2 r hr).2⟩⟩
theorem LentL.readsL {w : World} {B : Nat} {A : Option Addr} {rs : List SRow} (h : LentL w B A rs) : ReadsL w B A rs := ⟨h.1, fun r hr => (h.2.2 r hr).1.take⟩
theorem LentL.rd {w : World} {B : Nat} {A : Option Addr} {rs : List SRow} (h : LentL w B A rs) {r : SRow} (hr : r ∈ rs) : Rd w B r.1 (r.2.2 ++ [771]) := ⟨(h.2.2 r hr).1, h.2.1⟩
/-- slices of words that came in -/
def RdL (w : World) (B : Nat) (A : Option Addr) (rs : List SRow) : Prop := ReadsL w B A rs ∧ B ≤ w.heap.size
theorem RdL.next {w w' : World} {B : Nat} {A : Option Addr} {rs : List SRow} (h : RdL w B A rs) (hb : Below w.heap.size w w') : RdL w' B A rs := ⟨h.1.below (hb.mono h.2), Nat.le_trans h.2 hb.size⟩
theorem RdL.far {w w' : World} {B b : Nat} {A : Option Addr} {rs : List SRow} (h : RdL w B A rs) (hb : Below b w w') (hB : B ≤ b) : RdL w' B A rs := ⟨h.1.below (hb.mono hB), Nat.le_trans h.2 hb.size⟩
/-- left, as a call that only draws -/
theorem left_quiet {w : World} {B B' n c n' c' : Nat} {A A' : Option Addr} {l : List Int} (hr : ReadsI w B A (l ++ [771])) (hr' : ReadsI w B' A' l) (hn : n = l.length) (hn' : n' = l.length) (hc : n + 1 ≤ c) (hb : n ≤ 100000000) (d : Nat) :
    ∀ q, Calls Tryd.prog 22 #[.slice A n c, .slice A' n' c'] (w.drewN (d + q)) (fun e w' => e = .returned (.bool true) ∧ ∃ k, w' = w.drewN (d + k)) := by
  intro q
  subst hn hn'
  have HS := Lib.hid (same_true (w := w.drewN (d + q)) (c := c) (c' := c') (hr.drewN _).take (hr'.drewN _) rfl rfl (by omega) rfl)
  have hlt : l.length < (l ++ [771]).length := by simp
  obtain ⟨ad, rfl, hb1, c0⟩ := hr.at_ hlt
  have e : (l ++ [771])[l.length]'hlt = 771 := by simp
  rw [e] at c0
  have hc2 : (l.length : Int) + 1 ≤ (c : Int) := by omega
  generalize l.length = n at *
  clear hr hr' hb1 e hlt
  go_enter Tryd.func22, Tryd.ntmps22
  go_wp2_with fail
  refine HS.out.mono ?_
  rintro e w' ⟨rfl, d2, rfl⟩
  go_wp2_with fail
  go_ret
  exact ⟨rfl, q + d2, by rw [Nat.add_assoc]⟩
end Go.Proofs.YtmjnhpagoboejaaDoor

/- A slice of slices of ints opened. -/
namespace Go.Proofs.YtmjnhpagoboejaaDoor.Laid
open Go.ChangeShapes Go.WideShapes Go.ChangeAt Go.RowKit
open Wd Go.Deep
theorem cells46 : Tryd.prog.cellsOf 46 = 1 := by kernel_rfl
theorem part_le {H : Type} {d : DataW H} {l : List (DataW H)} (h : d ∈ l) : Rows.uptoBulk d ≤ Rows.uptoBulkAll l := by
  induction l with
  | nil => cases h
  | cons x r ih =>
    simp only [Rows.uptoBulkAll]
    rcases List.mem_cons.1 h with rfl | e
    · omega
    · have := ih e; omega
theorem one_le {H : Type} (d : DataW H) : 1 ≤ Rows.uptoBulk d := by
  cases d with
  | lit l => cases l <;> simp [Rows.uptoBulk]
  | nil => simp [Rows.uptoBulk]
  | ptr d => simp [Rows.uptoBulk]
  | slice elems spare => simp [Rows.uptoBulk]
  | agg parts => simp [Rows.uptoBulk]
  | iface t d => simp [Rows.uptoBulk]
  | map entries => simp [Rows.uptoBulk]
  | held h => simp [Rows.uptoBulk]
theorem length_le {H : Type} (l : List (DataW H)) : l.length ≤ Rows.uptoBulkAll l := by
  induction l with
  | nil => simp [Rows.uptoBulkAll]
  | cons x r ih => have := one_le x; simp only [Rows.uptoBulkAll, List.length_cons]; omega
section
variable {H : Type} {enc : TypeId × Value → H} {w : World} {base : Nat}
set_option maxRecDepth 100000 in
/-- words that came in -/
theorem open_wordsR {v : Value} {d : DataW H} {p : List MemPlace} (hval : Value.okWide Tryd.prog w .any base 46 v) (h : DataW.Trod enc Tryd.prog w 0 (fun _ => true) true 46 v d p) :
    ∃ (A : Option Addr) (n c : Nat) (rs : List SRow), v = .slice A n c ∧ n ≤ c ∧ c ≤ 9223372036854775807 ∧ n = rs.length ∧ RdL w w.heap.size A rs ∧ (∀ r ∈ rs, Wf r.2.2 ∧ r.2.2.length ≤ Rows.uptoBulk d) ∧ n ≤ Rows.uptoBulk d := by
  obtain ⟨a1, len0, cap0, rfl⟩ := okWide_slice Tryd.underlying46 hval
  obtain ⟨fuel, hf⟩ := h
  rcases open_int_rows Tryd.underlying46 Tryd.underlying22 Tryd.underlying3 cells22 cells3 hf with ⟨hcs, hx⟩ | ⟨a, len, cap, A, L, C, Z, hcs, hb, hl, hm, hx, hrow⟩
  · simp [Value.cells] at hcs
    obtain ⟨rfl, rfl, rfl⟩ := hcs
    exact ⟨none, 0, 0, [], rfl, Nat.le_refl _, by decide, rfl, ⟨⟨⟨rfl, fun h => absurd h (by decide)⟩, (fun r hr => by cases hr)⟩, Nat.le_refl _⟩, (fun r hr => by cases hr), Nat.zero_le _⟩
  · simp [Value.cells] at hcs
    obtain ⟨rfl, rfl, rfl⟩ := hcs
    simp only [Prod.mk.injEq] at hx
    obtain ⟨rfl, rfl⟩ := hx
    have hzl : ∀ r, r < cap0 → ((Z r).take (L r)).length = L r := fun r hr => by
      have h1 := hrow r hr
      rw [List.length_take]; omega
    refine ⟨some a, len0, cap0, (List.range len0).map (fun r => (A r, C r, (Z r).take (L r))), rfl, hl, hm, by simp, ⟨⟨⟨by simp, fun hn => ⟨a, rfl, ?_, fun j u hu => ?_⟩⟩, fun r hr => ?_⟩, Nat.le_refl _⟩, fun r hr => ?_, ?_⟩
    · simp at hn
      have := block_lt_of_cell (hrow 0 (by omega)).1
      rwa [block_of_add] at this
    · have hj := (List.getElem?_eq_some_iff.1 hu).1
      simp at hj
      rw [(hrow j (by omega)).1]
      rw [List.getElem?_map, List.getElem?_map, List.getElem?_range hj] at hu
      rw [← hu]
      show some (Value.slice (A j) (L j) (C j)) = some (Value.slice (A j) ((Z j).take (L j)).length (C j))
      rw [hzl j (by omega)]
    · obtain ⟨j, hj, rfl⟩ := List.mem_map.1 hr
      have hj := List.mem_range.1 hj
      obtain ⟨h1, h2, h3, h4, h5, h6, h7⟩ := hrow j (by omega)
      refine ⟨by simp, fun hn => ?_⟩
      show ∃ ad, A j = some ad ∧ _
      have hLj : 0 < L j := by
        have : 0 < ((Z j).take (L j)).length := hn
        rw [hzl j (by omega)] at this; exact this
      cases hA : A j with
      | none => exfalso; have := h6 hA; omega
      | some a' =>
        have h8 := (h7 a' hA).2
        refine ⟨a', rfl, ?_, fun i u hu => ?_⟩
        · have := block_lt_of_cell (h8 0 (by omega))
          rwa [block_of_add] at this
        · have hi := (List.getElem?_eq_some_iff.1 hu).1
          rw [List.length_map, hzl j (by omega)] at hi
          rw [h8 i (by omega)]
          rw [List.getElem?_map, List.getElem?_take, if_pos hi, List.getElem?_eq_getElem (by omega)] at hu
          rw [List.getD_eq_getElem?_getD, List.getElem?_eq_getElem (by omega)]
          exact hu
    · obtain ⟨j, hj, rfl⟩ := List.mem_map.1 hr
      have hj := List.mem_range.1 hj
      obtain ⟨h1, h2, h3, h4, h5, h6, h7⟩ := hrow j (by omega)
      refine ⟨fun k hk => bounds_i64 (h5 k (List.mem_of_mem_take hk)), ?_⟩
      show ((Z j).take (L j)).length ≤ _
      rw [hzl j (by omega)]
      have hmem : intRow (H := H) .i64 (A j) (L j) (Z j) ∈ (List.range len0).map fun r => intRow (H := H) .i64 (A r) (L r) (Z r) := List.mem_map.2 ⟨j, List.mem_range.2 hj, rfl⟩
      have hp := part_le hmem
      have hq : L j ≤ Rows.uptoBulk (intRow (H := H) .i64 (A j) (L j) (Z j)) := by
        unfold intRow
        cases hA : A j with
        | none => have := h6 hA; omega
        | some a' =>
          simp only [Rows.uptoBulk, bulk_lits, List.length_take, List.length_drop]
          omega
      simp only [Rows.uptoBulk]
      omega
    · have := length_le ((List.range len0).map fun r => intRow (H := H) .i64 (A r) (L r) (Z r))
      rw [List.length_map, List.length_range] at this
      simp only [Rows.uptoBulk]
      omega
end
end Go.Proofs.YtmjnhpagoboejaaDoor.Laid

/- Byte slices: new bytes (OwnB), bytes that are read (ReadsB); append of bytes and of a string; a string made of bytes. -/
namespace Go.Proofs.YtmjnhpagoboejaaDoor
open Go.RowKit

/-- a byte as a value -/
def bv (b : UInt8) : Value := .int .u8 (b.toNat : Int)

theorem bv_one (l : List UInt8) : ∀ u ∈ l.map bv, u.oneCell' = true := by
  intro u hu
  obtain ⟨b, _, rfl⟩ := List.mem_map.1 hu
  rfl

/-- new bytes -/
def OwnB (w : World) (B : Nat) (v : Value) (l : List UInt8) : Prop := w.ownsRow B 5 1 v l.length (l.map bv)

/-- a slice's address, and the bytes that it reads, below block B -/
def ReadsB (w : World) (B : Nat) (A : Option Addr) (l : List UInt8) : Prop := Reads w B 1 A l.length (l.map bv)

theorem infoB : (Tryd.prog.info? 5).map (fun i => (i.zero, i.size, i.bytes)) = some (some (.int .u8 0), 1, 1) := by kernel_rfl

theorem OwnB.form {w : World} {B : Nat} {v : Value} {l : List UInt8} (h : OwnB w B v l) : ∃ A c, v = .slice A l.length c ∧ l.length ≤ c := by
  rcases h.2 with ⟨rfl, h0⟩ | ⟨g, cap, cur, rfl, _, _, hc, _⟩
  · exact ⟨none, 0, by rw [h0], by omega⟩
  · exact ⟨_, cap, rfl, hc⟩
theorem OwnB.len {w : World} {B n c : Nat} {A : Option Addr} {l : List UInt8} (h : OwnB w B (.slice A n c) l) : n = l.length := by
  obtain ⟨A', c', e, _⟩ := h.form
  injection e
theorem own_nil {w : World} {B : Nat} {v : Value} {l : List UInt8} (h : OwnB w B v l) (hv : v.ownBlock = none) : v = .slice none 0 0 := by
  rcases h.2 with ⟨rfl, _⟩ | ⟨g, cap, cur, rfl, _⟩
  · rfl
  · cases hv
theorem OwnB.far {w : World} {B g : Nat} {v : Value} {l : List UInt8} (h : OwnB w B v l) (hg : g < B) : some g ≠ v.ownBlock := by
  rcases h.2 with ⟨rfl, _⟩ | ⟨g', cap, cur, rfl, hb, _⟩
  · intro e; cases e
  · intro e
    have : g = g' := Option.some.inj e
    omega
theorem OwnB.grown {w w' : World} {B : Nat} {v : Value} {l : List UInt8} {r : Option Nat} (h : OwnB w B v l) (hg : w.grownBy w' r) (hr : v.ownBlock ≠ r ∨ v.ownBlock = none) : OwnB w' B v l := World.ownsRow.kept h hg hr.symm
theorem OwnB.reads {w : World} {B n c : Nat} {A : Option Addr} {l : List UInt8} (h : OwnB w B (.slice A n c) l) : ReadsB w w.heap.size A l := by
  obtain rfl := h.len
  exact Reads.of_own h
theorem OwnB.mono {w : World} {B B' : Nat} {v : Value} {l : List UInt8} (h : OwnB w B v l) (hB : B' ≤ B) : OwnB w B' v l := by
  refine ⟨h.1, ?_⟩
  rcases h.2 with h' | ⟨g, cap, cur, hv, hg, r⟩
  · exact .inl h'
  · exact .inr ⟨g, cap, cur, hv, by omega, r⟩
theorem OwnB.kept {w w' : World} {B : Nat} {v : Value} {l : List UInt8} (h : OwnB w B v l) (hb : Below w.heap.size w w') : OwnB w' B v l := by
  refine ⟨h.1, ?_⟩
  rcases h.2 with h' | ⟨g, cap, cur, hv, hg, hh, r⟩
  · exact .inl h'
  · exact .inr ⟨g, cap, cur, hv, hg, (hb.block g (lt_of_block hh)).trans hh, r⟩
theorem OwnB.alloc {w : World} {B : Nat} {v : Value} {l : List UInt8} (h : OwnB w B v l) (o : Obj) : OwnB (w.alloc o) B v l := World.ownsRow.alloc h o
theorem OwnB.drew {w : World} {B : Nat} {v : Value} {l : List UInt8} (h : OwnB w B v l) : OwnB w.drew B v l := h
theorem OwnB.drewN {w : World} {B : Nat} {v : Value} {l : List UInt8} (h : OwnB w B v l) (n : Nat) : OwnB (w.drewN n) B v l := h
theorem OwnB.nil (w : World) (B : Nat) : OwnB w B (.slice none 0 0) [] := World.ownsRow_nil w B _ 1

theorem OwnB.lit (w : World) (B : Nat) (l : List UInt8) (cs : Array Value) (n : Nat) (hcs : cs.toList = l.map bv) (hn : n = l.length) (hB : B ≤ w.heap.size) (hl : l.length ≤ 140737488355328) :
    OwnB (w.alloc (.cells cs 5)) B (.slice (some ⟨w.heap.size, 0, none⟩) n n) l := by
  subst hn
  have hs : cs.size = l.length := by rw [← Array.length_toList, hcs, List.length_map]
  exact ⟨by simp, .inr ⟨_, l.length, cs, rfl, hB, heap_alloc_new w _, Nat.le_refl _, by unfold maxLen; omega, by omega, by rw [hcs, Nat.mul_one, List.take_of_length_le (by simp)]⟩⟩
theorem ReadsB.alloc {w : World} {B : Nat} {A : Option Addr} {l : List UInt8} (h : ReadsB w B A l) (hB : B ≤ w.heap.size) (o : Obj) : ReadsB (w.alloc o) B A l := Reads.alloc h hB o

theorem wpB_append {w : World} {ops : Array Oper} {rest : List Oper} {o : Oper} {a : Act} {Q : Exit → Act → World → Prop} (hgd : o.guard = none) (s x : Operand)
    (ho : o.op = .call { callee := .builtin .append, args := #[s, x], argTypes := #[107, 107] }) (B : Nat) (v : Value) (l : List UInt8) (hown : OwnB w B v l) (hs : a.eval s = v)
    (B' : Nat) (A : Option Addr) (news : List UInt8) (hr : ReadsB w B' A news) (m c : Nat) (hm : m = news.length) (hx : a.eval x = .slice A m c) (hlen : l.length + news.length ≤ 140737488355328) (hbase : B ≤ w.heap.size)
    (h : ∀ A' n' c' w', OwnB w' B (.slice A' n' c') (l ++ news) → w.grownBy w' v.ownBlock → (v ≠ .slice none 0 0 → A' ≠ none) → wpList Tryd.prog ops Q rest (a.put o.dst (.slice A' n' c')) w') :
    wpList Tryd.prog ops Q (o :: rest) a w := by
  obtain ⟨i0, hi, hz0, hz1, hz2⟩ := info_parts infoB
  subst hm
  refine wpList_append_any w hgd s x 107 ho B 5 i0 (.int .u8 0) 1 1 Tryd.underlying107 hi hz0 hz1 hz2 rfl (by decide) v l.length (l.map bv) hs hown B' A news.length c (news.map bv) hx hr (bv_one _) (by unfold maxLen; omega) (by omega) hbase ?_
  intro v' w' h1 h2 h3
  have h4 : OwnB w' B v' (l ++ news) := by
    unfold OwnB
    rw [List.length_append, List.map_append]
    exact h1
  obtain ⟨A', c', rfl, _⟩ := h4.form
  refine h A' _ c' w' h4 h2 (fun hv => ?_)
  rintro rfl
  rcases h3 with h3 | h3
  · exact hv (own_nil hown h3.symm)
  · cases h3

theorem wpB_append_str {w : World} {ops : Array Oper} {rest : List Oper} {o : Oper} {a : Act} {Q : Exit → Act → World → Prop} (hgd : o.guard = none) (s x : Operand)
    (ho : o.op = .call { callee := .builtin .append, args := #[s, x], argTypes := #[107, 9] }) (B : Nat) (v : Value) (l : List UInt8) (hown : OwnB w B v l) (hs : a.eval s = v)
    (t : ByteArray) (hx : a.eval x = .string t) (hlen : l.length + t.size ≤ 140737488355328) (hbase : B ≤ w.heap.size)
    (h : ∀ A' n' c' w', OwnB w' B (.slice A' n' c') (l ++ t.data.toList) → w.grownBy w' v.ownBlock → wpList Tryd.prog ops Q rest (a.put o.dst (.slice A' n' c')) w') :
    wpList Tryd.prog ops Q (o :: rest) a w := by
  obtain ⟨i0, hi, hz0, hz1, hz2⟩ := info_parts infoB
  refine Lib.wpList_append_own_string w hgd s x 107 9 ho B 5 i0 Tryd.underlying107 Tryd.underlying9 hi hz0 hz1 hz2 v l.length (l.map bv) hs hown t hx (by unfold maxLen; omega) (by omega) hbase ?_
  intro v' w' h1 h2 _
  have h4 : OwnB w' B v' (l ++ t.data.toList) := by
    unfold OwnB
    rw [List.length_append, List.map_append]
    have e : t.data.toList.length = t.size := Array.length_toList
    rw [e]
    exact h1
  obtain ⟨A', c', rfl, _⟩ := h4.form
  exact h A' _ c' w' h4 h2

theorem stepB_append {w : World} {ops : Array Oper} {o : Oper} {a : Act} {K : Act → World → Prop} {Q : Exit → Act → World → Prop} {E : Prop} (hgd : o.guard = none) (s x : Operand)
    (ho : o.op = .call { callee := .builtin .append, args := #[s, x], argTypes := #[107, 107] }) (B : Nat) (v : Value) (l : List UInt8) (hown : OwnB w B v l) (hs : a.eval s = v)
    (B' : Nat) (A : Option Addr) (news : List UInt8) (hr : ReadsB w B' A news) (m c : Nat) (hm : m = news.length) (hx : a.eval x = .slice A m c) (hlen : l.length + news.length ≤ 140737488355328) (hbase : B ≤ w.heap.size)
    (h : ∀ A' n' c' w', OwnB w' B (.slice A' n' c') (l ++ news) → w.grownBy w' v.ownBlock → (v ≠ .slice none 0 0 → A' ≠ none) → K (a.put o.dst (.slice A' n' c')) w') :
    if Region.wanted o (yielded ops a.tmps) = true then Oper.wp Tryd.prog o a w K Q else E := by
  have hw : Region.wanted o (yielded ops a.tmps) = true := by simp [Region.wanted, hgd]
  rw [if_pos hw]
  obtain ⟨i0, hi, hz0, hz1, hz2⟩ := info_parts infoB
  subst hm
  refine wp_append_any w s x 107 ho B 5 i0 (.int .u8 0) 1 1 Tryd.underlying107 hi hz0 hz1 hz2 rfl (by decide) v l.length (l.map bv) hs hown B' A news.length c (news.map bv) hx hr (bv_one _) (by unfold maxLen; omega) (by omega) hbase ?_
  intro v' w' h1 h2 h3
  have h4 : OwnB w' B v' (l ++ news) := by
    unfold OwnB
    rw [List.length_append, List.map_append]
    exact h1
  obtain ⟨A', c', rfl, _⟩ := h4.form
  refine h A' _ c' w' h4 h2 (fun hv => ?_)
  rintro rfl
  rcases h3 with h3 | h3
  · exact hv (own_nil hown h3.symm)
  · cases h3

theorem stepB_append_str {w : World} {ops : Array Oper} {o : Oper} {a : Act} {K : Act → World → Prop} {Q : Exit → Act → World → Prop} {E : Prop} (hgd : o.guard = none) (s x : Operand)
    (ho : o.op = .call { callee := .builtin .append, args := #[s, x], argTypes := #[107, 9] }) (B : Nat) (v : Value) (l : List UInt8) (hown : OwnB w B v l) (hs : a.eval s = v)
    (t : ByteArray) (hx : a.eval x = .string t) (hlen : l.length + t.size ≤ 140737488355328) (hbase : B ≤ w.heap.size)
    (h : ∀ A' n' c' w', OwnB w' B (.slice A' n' c') (l ++ t.data.toList) → w.grownBy w' v.ownBlock → K (a.put o.dst (.slice A' n' c')) w') :
    if Region.wanted o (yielded ops a.tmps) = true then Oper.wp Tryd.prog o a w K Q else E := by
  have hw : Region.wanted o (yielded ops a.tmps) = true := by simp [Region.wanted, hgd]
  rw [if_pos hw]
  obtain ⟨i0, hi, hz0, hz1, hz2⟩ := info_parts infoB
  obtain ⟨v', w', hr, h1, h2, _⟩ := Lib.run_append_own_string (P := Tryd.prog) w B 107 9 o.type 5 i0 Tryd.underlying107 Tryd.underlying9 hi hz0 hz1 hz2 v l.length (l.map bv) hown t (by unfold maxLen; omega) (by omega) hbase
  have h4 : OwnB w' B v' (l ++ t.data.toList) := by
    unfold OwnB
    rw [List.length_append, List.map_append]
    have e : t.data.toList.length = t.size := Array.length_toList
    rw [e]
    exact h1
  obtain ⟨A', c', rfl, _⟩ := h4.form
  unfold Oper.wp execOp
  simp only [ho, resolve, invoke, builtin, Sem.run_bind, Sem.run_pure, Result.andThen_ok, List.map_toArray, List.map_cons, List.map_nil, hs, hx, hr]
  exact h A' _ c' w' h4 h2

theorem wpB_make {w : World} {ops : Array Oper} {rest : List Oper} {o : Oper} {a : Act} {Q : Exit → Act → World → Prop} (hgd : o.guard = none) (s x : Operand)
    (ho : o.op = .makeSlice 107 s x) (B : Nat) (kl kc : IntKind) (C : Int) (n : Nat) (hs : a.eval s = .int kl 0) (hx : a.eval x = .int kc C) (hC : C = (n : Int)) (hlen : n ≤ 281474976710656) (hbase : B ≤ w.heap.size)
    (h : ∀ w', OwnB w' B (.slice (some ⟨w.heap.size, 0, none⟩) 0 n) [] → w.grownBy w' none → wpList Tryd.prog ops Q rest (a.put o.dst (.slice (some ⟨w.heap.size, 0, none⟩) 0 n)) w') :
    wpList Tryd.prog ops Q (o :: rest) a w := by
  obtain ⟨i0, hi, hz0, hz1, hz2⟩ := info_parts infoB
  exact wpList_make_own w hgd s x 107 ho B 5 i0 (.int .u8 0) 1 Tryd.underlying107 hi hz0 hz1 kl kc C n hs hx hC (by rw [hz2]; omega) (by unfold maxLen; omega) hbase h

/-- string(b) -/
theorem run_str {w : World} {B n c : Nat} {A : Option Addr} {l : List UInt8} (hn : n = l.length) (hr : ReadsB w B A l) : (convert 107 9 (.slice A n c)).run Tryd.prog w = .ok (.string ⟨l.toArray⟩) w := by
  subst hn
  rw [run_convert_bytes_string w 107 9 5 A _ c Tryd.underlying107 Tryd.underlying5 Tryd.underlying9]
  rcases A with _ | ad
  · have hl : l = [] := by
      rcases Nat.eq_zero_or_pos l.length with h0 | h0
      · exact List.eq_nil_of_length_eq_zero h0
      · obtain ⟨_, h, _⟩ := hr.2 h0
        cases h
    subst hl
    simp [Conv.bytesToString]
    rfl
  · have e : l.map bv = (l.map fun b => (b.toNat : Int)).map (Value.int .u8) := by rw [List.map_map]; rfl
    have hc : ∀ (j : Nat) (u : Value), (l.map bv)[j]? = some u → w.cell? (ad.add j) = some u := by
      intro j u hu
      have h0 : 0 < l.length := by
        rcases Nat.eq_zero_or_pos l.length with h0 | h0
        · have hl := List.eq_nil_of_length_eq_zero h0
          subst hl
          simp at hu
        · exact h0
      obtain ⟨ad', h, _, hc⟩ := hr.2 h0
      injection h with h
      subst h
      exact hc j u hu
    have hl := run_loadCells_list (P := Tryd.prog) w ad (l.map bv) hc
    rw [List.length_map, e] at hl
    rw [run_bytesToString w ad l.length c _ hl, foldl_push_bytes]
    simp [ByteArray.empty, ByteArray.emptyWithCapacity]
    show [] ++ _ = l
    rw [List.nil_append]
    conv => rhs; rw [← List.map_id l]
    refine List.map_congr_left fun b _ => ?_
    simp

end Go.Proofs.YtmjnhpagoboejaaDoor

/- ref.digits, Text. -/
namespace Go.Proofs.YtmjnhpagoboejaaDoor
open Go.RowKit
open Wd
set_option linter.unusedSimpArgs false
set_option linter.unusedVariables false

/-- one byte in a slice of its own, as a string -/
theorem str_one (w : World) (b : UInt8) (x : Int) (hx : x = (b.toNat : Int)) : (convert 107 9 (.slice (some ⟨w.heap.size, 0, none⟩) 1 1)).run Tryd.prog (w.alloc (.cells #[.int .u8 x] 5)) = .ok (.string ⟨#[b]⟩) (w.alloc (.cells #[.int .u8 x] 5)) := by
  subst hx
  have h := (OwnB.lit w w.heap.size [b] #[.int .u8 (b.toNat : Int)] 1 rfl rfl (Nat.le_refl _) (by simp))
  exact run_str h.len h.reads
theorem dec_small {u : Nat} (h : u < 10) : Lib.decDigits u = [UInt8.ofNat (48 + u)] := by rw [Lib.decDigits, dif_pos h]
theorem dec_big {u : Nat} (h : ¬ u < 10) : Lib.decDigits u = Lib.decDigits (u / 10) ++ [UInt8.ofNat (48 + u % 10)] := by rw [Lib.decDigits, dif_neg h]
theorem ofNat_val {u : Nat} (h : u < 256) : ((u : Nat) : Int) = ((UInt8.ofNat u).toNat : Int) := by
  rw [UInt8.toNat_ofNat']
  omega
set_option maxRecDepth 100000 in
theorem digit_small {w : World} {u : Nat} (h : u < 10) :
    Calls Tryd.prog 62 #[.int .i64 (u : Int)] w (fun e w' => e = .returned (bs (Lib.decDigits u)) ∧ Below w.heap.size w w') := by
  obtain ⟨b, hbb⟩ : ∃ b, b = UInt8.ofNat (48 + u) := ⟨_, rfl⟩
  have hs := str_one w b (48 + (u : Int)) (by rw [hbb]; have := ofNat_val (u := 48 + u) (by omega); omega)
  have Hd := Lib.hid (show Lib.decDigits u = [b] by rw [hbb]; exact dec_small h)
  have Hb := Lib.hid ((Below.refl w.heap.size w).alloc (Nat.le_refl _) (.cells #[.int .u8 (48 + (u : Int))] 5))
  have h1 : (u : Int) < 10 := by omega
  have h2 : (0 : Int) ≤ (u : Int) := by omega
  have h3 : IntKind.u8.wrap (48 + (u : Int)) = 48 + (u : Int) := by rw [IntKind.wrap_u8]; omega
  clear h hbb
  go_enter Tryd.func62, Tryd.ntmps62
  go_wp2
  go_ret
  exact ⟨by rw [Hd.out]; rfl, Hb.out⟩
theorem cat_bs (a b : List UInt8) : (.string ((⟨a.toArray⟩ : ByteArray) ++ ⟨b.toArray⟩) : Value) = bs (a ++ b) := by
  unfold bs
  congr 1
set_option maxRecDepth 100000 in
theorem digit_mid {w : World} {u : Nat} (h0 : 10 ≤ u) (h : u < 100) :
    Calls Tryd.prog 62 #[.int .i64 (u : Int)] w (fun e w' => e = .returned (bs (Lib.decDigits u)) ∧ Below w.heap.size w w') := by
  obtain ⟨q, hq⟩ : ∃ q, q = u / 10 := ⟨_, rfl⟩
  obtain ⟨r, hr⟩ : ∃ r, r = u % 10 := ⟨_, rfl⟩
  have H1 := Lib.hid (digit_small (w := w) (u := q) (by omega))
  have H2 := Lib.hid (fun w' : World => digit_small (w := w') (u := r) (by omega))
  have Hd := Lib.hid (show Lib.decDigits u = Lib.decDigits q ++ Lib.decDigits r by rw [dec_big (by omega), hq, hr, dec_small (u := u % 10) (by omega)])
  have hl : ∀ x, x < 10 → (⟨(Lib.decDigits x).toArray⟩ : ByteArray).size ≤ 100 := fun x hx => by rw [dec_small hx]; exact (show (1 : Nat) ≤ 100 by decide)
  have hl1 := hl q (by omega)
  have hl2 := hl r (by omega)
  have hqi : (q : Int) = (u : Int) / 10 := by omega
  have hri : (r : Int) = (u : Int) % 10 := by omega
  have h1 : (10 : Int) ≤ (u : Int) := by omega
  have h2 : (u : Int) < 100 := by omega
  rw [hqi] at H1
  rw [hri] at H2
  generalize Lib.decDigits q = Q at *
  generalize Lib.decDigits r = R at *
  have Hfin := Lib.hid (show (.string (⟨Q.toArray⟩ ++ ⟨R.toArray⟩) : Value) = bs (Q ++ R) from cat_bs Q R)
  unfold bs at H1 H2
  obtain ⟨sq, hsq⟩ : ∃ s : ByteArray, s = ⟨Q.toArray⟩ := ⟨_, rfl⟩
  obtain ⟨sr, hsr⟩ : ∃ s : ByteArray, s = ⟨R.toArray⟩ := ⟨_, rfl⟩
  rw [← hsq] at hl1 H1 Hfin
  rw [← hsr] at hl2 H2 Hfin
  clear h0 h hq hr hl hqi hri hsq hsr
  go_enter Tryd.func62, Tryd.ntmps62
  go_wp2_with fail
  refine H1.out.mono ?_
  rintro e w2 ⟨rfl, hb2⟩
  have Hb2 := Lib.hid hb2
  clear hb2
  go_wp2_with fail
  refine (H2.out w2).mono ?_
  rintro e w3 ⟨rfl, hb3⟩
  have Hb3 := Lib.hid hb3
  clear hb3
  go_wp2_with fail
  go_ret
  exact ⟨by rw [Hd.out, ← Hfin.out]; rfl, Hb2.out.trans (Hb3.out.mono Hb2.out.size)⟩
theorem cat_one (b : UInt8) (s : List UInt8) : ((⟨#[b]⟩ : ByteArray) ++ ⟨s.toArray⟩) = ⟨(b :: s).toArray⟩ := by
  apply ByteArray.ext
  simp
set_option maxRecDepth 100000 in
set_option maxHeartbeats 2000000 in
theorem digit_neg {w : World} {u : Nat} (h0 : 1 ≤ u) (h : u < 100) :
    Calls Tryd.prog 62 #[.int .i64 (-(u : Int))] w (fun e w' => e = .returned (bs (45 :: Lib.decDigits u)) ∧ Below w.heap.size w w') := by
  have hlt : -(u : Int) < 0 := by omega
  obtain ⟨D, hD⟩ : ∃ D, D = Lib.decDigits u := ⟨_, rfl⟩
  rw [← hD]
  have HD := Lib.hid hD
  obtain ⟨z0, hz0⟩ : ∃ z : Int, z = -(u : Int) := ⟨_, rfl⟩
  rw [← hz0] at hlt ⊢
  have Hz0 := Lib.hid hz0
  clear hz0 hD
  go_enter Tryd.func62, Tryd.ntmps62
  go_wp2_with fail
  go_loopg [0, 3] u (fun k zv sv wr => ∃ (j : Nat) (z : Int) (s : List UInt8), zv = .int .i64 z ∧ sv = .string ⟨s.toArray⟩ ∧ k = j ∧ Hid (z = -(j : Int) ∧ j < 100 ∧ s.length ≤ 3 ∧ (j ≤ 9 ∨ s = []) ∧ s.length + (if j = 0 then 0 else if j < 10 then 1 else 2) ≤ 2 ∧ (if j = 0 then s else Lib.decDigits j ++ s) = D) ∧ Hid (Below w.heap.size w wr))
  case atStart => exact ⟨u, z0, [], rfl, rfl, rfl, Lib.hid ⟨Hz0.out, h, by simp, .inr rfl, by simp; split <;> (try split) <;> omega, by rw [if_neg (by omega), List.append_nil]; exact HD.out.symm⟩, Lib.hid (Below.refl _ _)⟩
  case round =>
    obtain ⟨j, z, s, rfl, rfl, hk, hj, hb⟩ := hrel
    have Hk := Lib.hid hk
    clear hk
    rcases Nat.eq_zero_or_pos j with hj0 | hj0
    · have hz : z = 0 := by have := hj.out.1; omega
      have Hs := Lib.hid (show s = D by have h := hj.out.2.2.2.2.2; rw [if_pos hj0] at h; exact h)
      have hsz : (⟨s.toArray⟩ : ByteArray).size ≤ 100 := by have := hj.out.2.2.1; show s.toArray.size ≤ 100; simp; omega
      have Hcat := Lib.hid (show (.string ((⟨#[45]⟩ : ByteArray) ++ ⟨s.toArray⟩) : Value) = bs (45 :: D) by rw [cat_one, Hs.out]; rfl)
      generalize (⟨s.toArray⟩ : ByteArray) = S at *
      subst hz
      clear hj0
      go_wp2_with fail
      go_ret
      exact ⟨by rw [← Hcat.out]; rfl, hb.out⟩
    · obtain ⟨q, hq⟩ : ∃ q, q = j / 10 := ⟨_, rfl⟩
      obtain ⟨r, hr⟩ : ∃ r, r = j % 10 := ⟨_, rfl⟩
      have hz := hj.out.1
      have hzn : z < 0 := by omega
      have ht : Int.tmod z 10 = -(r : Int) := by rw [hz, hr, Int.neg_tmod]; rfl
      have hd : Int.tdiv z 10 = -(q : Int) := by rw [hz, hq, Int.neg_tdiv]; rfl
      obtain ⟨b, hbb⟩ : ∃ b, b = UInt8.ofNat (48 + r) := ⟨_, rfl⟩
      have hr9 : r ≤ 9 := by omega
      have hs := str_one wr b (48 + (r : Int)) (by rw [hbb]; have := ofNat_val (u := 48 + r) (by omega); omega)
      have h3 : IntKind.u8.wrap (48 + (r : Int)) = 48 + (r : Int) := by rw [IntKind.wrap_u8]; omega
      have hri : (0 : Int) ≤ (r : Int) := by omega
      have hri2 : (r : Int) ≤ 9 := by omega
      have hq100 : (q : Int) ≤ 100 := by have := hj.out.2.1; omega
      have hsz : (⟨s.toArray⟩ : ByteArray).size ≤ 100 := by have := hj.out.2.2.1; show s.toArray.size ≤ 100; simp; omega
      have Hcat := Lib.hid (cat_one b s)
      have Hnext := Lib.hid (show (if q = 0 then b :: s else Lib.decDigits q ++ (b :: s)) = D by
        have h := hj.out.2.2.2.2.2
        rw [if_neg (by omega)] at h
        rw [← h]
        by_cases h10 : j < 10
        · rw [if_pos (by omega), dec_small h10, hbb, show r = j by omega]; rfl
        · rw [if_neg (by omega), dec_big h10, ← hq, ← hr, ← hbb, List.append_assoc]; rfl)
      have Hnum := Lib.hid (show -(q : Int) = -(q : Int) ∧ q < 100 ∧ (b :: s).length ≤ 3 ∧ (q ≤ 9 ∨ b :: s = []) ∧ (b :: s).length + (if q = 0 then 0 else if q < 10 then 1 else 2) ≤ 2 by
        have h1 := hj.out.2.2.2.2.1
        have h2 := hj.out.2.1
        rw [if_neg (by omega)] at h1
        rw [List.length_cons]
        refine ⟨rfl, by omega, ?_, .inl (by omega), ?_⟩
        · split at h1 <;> omega
        · by_cases h10 : j < 10
          · rw [if_pos (by omega)]; rw [if_pos h10] at h1; omega
          · rw [if_neg (by omega), if_pos (by omega)]; rw [if_neg h10] at h1; omega)
      have Hlt := Lib.hid (show q < j by omega)
      have Hb2 := Lib.hid (hb.out.alloc hb.out.size (.cells #[.int .u8 (48 + (r : Int))] 5))
      generalize (⟨s.toArray⟩ : ByteArray) = S at *
      clear hq hr hz hbb hr9 hj0 hj
      go_wp2_with fail
      go_roundg q
      case measure => have := Hk.out; have := Hlt.out; omega
      case rel => exact ⟨q, -(q : Int), b :: s, rfl, by rw [← Hcat.out], rfl, Lib.hid ⟨rfl, Hnum.out.2.1, Hnum.out.2.2.1, Hnum.out.2.2.2.1, Hnum.out.2.2.2.2, Hnext.out⟩, Hb2⟩
/-- a letter's digits -/
theorem digits_any {w : World} {k : Int} (h1 : -64 ≤ k) (h2 : k ≤ 64) :
    Calls Tryd.prog 62 #[.int .i64 k] w (fun e w' => e = .returned (bs (Lib.itoa k)) ∧ Below w.heap.size w w') := by
  unfold Lib.itoa
  by_cases h : k < 0
  · rw [if_pos h]
    have := digit_neg (w := w) (u := k.natAbs) (by omega) (by omega)
    rw [show (-(k.natAbs : Int)) = k by omega] at this
    exact this
  · rw [if_neg h]
    by_cases h10 : k < 10
    · have := digit_small (w := w) (u := k.toNat) (by omega)
      rw [show ((k.toNat : Nat) : Int) = k by omega] at this
      exact this
    · have := digit_mid (w := w) (u := k.toNat) (by omega) (by omega)
      rw [show ((k.toNat : Nat) : Int) = k by omega] at this
      exact this
/-- the first so many letters' text -/
def txtTo (l : List Int) (i : Nat) : List UInt8 := Lib.join ((l.take i).map Lib.itoa) [32]
theorem txtTo_succ {l : List Int} {i : Nat} (h : i < l.length) (h1 : 1 ≤ i) : txtTo l (i + 1) = txtTo l i ++ [32] ++ Lib.itoa l[i] := by
  cases l with
  | nil => simp at h
  | cons x r =>
    obtain ⟨j, rfl⟩ : ∃ j, i = j + 1 := ⟨i - 1, by omega⟩
    have hj : j < r.length := by simpa using h
    unfold txtTo
    rw [List.take_succ_cons, List.take_succ_cons, List.map_cons, List.map_cons, Lib.join_cons, Lib.join_cons]
    rw [show (x :: r)[j + 1]'h = r[j]'hj from rfl]
    rw [List.map_take, Lib.joinTail_take_succ [32] (r.map Lib.itoa) j (Lib.itoa r[j]) (by rw [List.getElem?_map, List.getElem?_eq_getElem hj]; rfl), List.map_take]
    simp only [List.append_assoc]
theorem txtTo_len (l : List Int) (hl : ∀ k ∈ l, -64 ≤ k ∧ k ≤ 64) (h : l.length ≤ 100000) (i : Nat) : (txtTo l i).length ≤ 140737488355328 :=
  join_small _ (by rw [List.length_take]; omega) (fun k hk => hl k (List.mem_of_mem_take hk))
theorem txtTo_small (l : List Int) (hl : ∀ k ∈ l, -64 ≤ k ∧ k ≤ 64) (h : l.length ≤ 100000) (i : Nat) : (txtTo l i).length ≤ 2200000 := by
  have hs : ∀ (l : List Int), (∀ k ∈ l, -64 ≤ k ∧ k ≤ 64) → Lib.lens (l.map Lib.itoa) ≤ 21 * l.length := by
    intro l
    induction l with
    | nil => intro _; exact Nat.le_refl _
    | cons k r ih =>
      intro h
      have h1 := ih (fun x hx => h x (by simp [hx]))
      have h2 := h k (by simp)
      have h3 := Lib.itoa_length_le k (by omega) (by omega)
      have e : Lib.lens (Lib.itoa k :: List.map Lib.itoa r) = (Lib.itoa k).length + Lib.lens (List.map Lib.itoa r) := by simp [Lib.lens]
      rw [List.map_cons, e, List.length_cons]
      omega
  unfold txtTo
  have hlt : (l.take i).length ≤ 100000 := by rw [List.length_take]; omega
  have hlm : ∀ k ∈ l.take i, -64 ≤ k ∧ k ≤ 64 := fun k hk => hl k (List.mem_of_mem_take hk)
  generalize l.take i = m at *
  cases m with
  | nil => simp [Lib.join]
  | cons k r =>
    have h1 := hs (k :: r) hlm
    rw [List.map_cons] at h1 ⊢
    rw [Lib.join_length, List.length_map]
    simp only [List.length_cons, List.length_nil] at hlt h1 ⊢
    omega
theorem letl_s {l : List Int} (h : LetL l) : ∀ k ∈ l, -64 ≤ k ∧ k ≤ 64 := fun k hk => (h k hk).2
set_option maxRecDepth 100000 in
set_option maxHeartbeats 2000000 in
theorem rtext_any {w : World} {B n c : Nat} {A : Option Addr} {l : List Int} (hr : ReadsI w B A l) (hB : B ≤ w.heap.size) (hn : n = l.length) (hl : LetL l) (hnl : n ≤ 100000) :
    Calls Tryd.prog 28 #[.slice A n c] w (fun e w' => e = .returned (bs (txt l)) ∧ Below w.heap.size w w') := by
  have Hn := Lib.hid hn
  have Hl := Lib.hid hl
  have Hr := Lib.hid (hr.more hB)
  clear hr hl hn hB
  rcases Nat.eq_zero_or_pos n with h0 | h0
  · have hl0 : l = [] := List.eq_nil_of_length_eq_zero (by rw [← Hn.out]; exact h0)
    have Hl0 := Lib.hid hl0
    subst h0
    clear hl0
    go_enter Tryd.func28, Tryd.ntmps28
    go_wp2_with fail
    go_ret
    exact ⟨by rw [Hl0.out]; rfl, Below.refl _ _⟩
  · have hnb : ((n : Int) == 0) = false := by simp; omega
    have hil : 0 < l.length := by rw [← Hn.out]; exact h0
    obtain ⟨ad, rfl, hb1, c0⟩ := Hr.out.at_ hil
    have hlet := Hl.out l[0] (List.getElem_mem hil)
    have HD := Lib.hid (digits_any (w := w) (k := l[0]) hlet.2.1 hlet.2.2)
    have H1 := Lib.hid (show Lib.itoa l[0] = txtTo l 1 by
      unfold txtTo
      cases l with
      | nil => simp at hil
      | cons x r => simp [Lib.join_one])
    rw [H1.out] at HD
    generalize l[0] = k at *
    rw [Addr.add_zero'] at c0
    have h0i : (0 : Int) < (n : Int) := by omega
    clear hb1 hlet hil
    go_enter Tryd.func28, Tryd.ntmps28
    go_wp2_with fail
    refine HD.out.mono ?_
    rintro e w2 ⟨rfl, hb2⟩
    have Hb2 := Lib.hid hb2
    clear hb2
    go_wp2_with fail
    go_loopg [3, 4] (n - 1) (fun k sv iv wr => ∃ (i : Nat) (S : ByteArray), sv = .string S ∧ iv = .int .i64 (i : Int) ∧ k = n - i ∧ 1 ≤ i ∧ i ≤ n ∧ S.size ≤ 2200000 ∧ Hid (S = ⟨(txtTo l i).toArray⟩) ∧ Hid (Below w.heap.size w wr))
    case atStart => exact ⟨1, ⟨(txtTo l 1).toArray⟩, rfl, rfl, by omega, by omega, by omega, by have := txtTo_small l (letl_s Hl.out) (by have := Hn.out; omega) 1; show (txtTo l 1).toArray.size ≤ _; simpa using this, Lib.hid rfl, Hb2⟩
    case round =>
      obtain ⟨i, S, rfl, rfl, hk, hi1, hi, hS, hSe, hO⟩ := hrel
      have Hk := Lib.hid hk
      clear hk
      by_cases hin : i < n
      · have hil : i < l.length := by rw [← Hn.out]; exact hin
        obtain ⟨ad', e', hb1, c1⟩ := (Hr.out.below hO.out).at_ hil
        injection e' with e'
        subst e'
        have hlet := Hl.out l[i] (List.getElem_mem hil)
        have HD2 := Lib.hid (digits_any (w := wr) (k := l[i]) hlet.2.1 hlet.2.2)
        have Hst := Lib.hid (txtTo_succ hil hi1)
        have hit := Lib.itoa_length_le l[i] (by omega) (by omega)
        have hii : (i : Int) < (n : Int) := by omega
        have Hsm := Lib.hid (txtTo_small l (letl_s Hl.out) (by have := Hn.out; omega) (i + 1))
        generalize l[i] = k at *
        obtain ⟨D, hD⟩ : ∃ D : ByteArray, D = ⟨(Lib.itoa k).toArray⟩ := ⟨_, rfl⟩
        have hDs : D.size ≤ 100 := by rw [hD]; show (Lib.itoa k).toArray.size ≤ _; simp; omega
        unfold bs at HD2
        have Hnew := Lib.hid (show S ++ ⟨#[32]⟩ ++ D = ⟨(txtTo l (i + 1)).toArray⟩ by
          rw [Hst.out, hSe.out, hD]
          apply ByteArray.ext
          simp)
        rw [← hD] at HD2
        clear hb1 hil hlet hit hD
        go_wp2_with fail
        refine HD2.out.mono ?_
        rintro e w3 ⟨rfl, hb3⟩
        have Hb3 := Lib.hid hb3
        clear hb3
        go_wp2_with fail
        go_roundg (n - (i + 1))
        case measure => have := Hk.out; omega
        case rel => exact ⟨i + 1, ⟨(txtTo l (i + 1)).toArray⟩, by rw [← Hnew.out], rfl, rfl, by omega, by omega, by have := Hsm.out; show (txtTo l (i + 1)).toArray.size ≤ _; simpa using this, Lib.hid rfl, Lib.hid (hO.out.trans (Hb3.out.mono hO.out.size))⟩
      · have hii : (n : Int) ≤ (i : Int) := by omega
        have Htx := Lib.hid (show (⟨(txtTo l i).toArray⟩ : ByteArray) = ⟨(txt l).toArray⟩ by unfold txtTo txt; rw [List.take_of_length_le (by have := Hn.out; omega), if_neg (by intro h; rw [h] at Hn; have := Hn.out; simp at this; omega)])
        go_wp2_with fail
        go_ret
        exact ⟨by rw [hSe.out, Htx.out]; rfl, hO.out⟩
end Go.Proofs.YtmjnhpagoboejaaDoor
