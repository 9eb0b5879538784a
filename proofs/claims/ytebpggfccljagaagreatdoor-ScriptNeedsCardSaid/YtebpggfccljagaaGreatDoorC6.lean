import Derived.Shelf.Strings.Builder1
import Derived.Shelf.Strings.Builder2
import Derived.Shelf.Strings.OnBuilder
import Derived.Shelf.Utf8.RuneCount
import Derived.Shelf.Strconv.Itoa0
import Derived.Shelf.Strconv.Itoa1
import Derived.Shelf.LaysM
import Derived.Shelf.Strconv.Itoa2
import Derived.Shelf.Strconv.Itoa3
import Derived.Shelf.Strconv.Itoa4
import Derived.Shelf.Strings.Search1
import Derived.Shelf.Strings.Search2
import Derived.Shelf.Strings.Search3
import Derived.Shelf.Strings.Cut
import Derived.Shelf.Strings.Count
import Derived.Shelf.Strings.Shaped
import Derived.Shelf.Strings.Prefix
import Derived.Shelf.Strings.Split
import Derived.Shelf.Strings.SplitShaped
import Derived.Shelf.Unicode.Decode
import Derived.Shelf.Strings.RuneCount
import Derived.Shelf.Strings.Explode
import Derived.Shelf.Unicode.DecodeSlow
import Derived.Shelf.Unicode.DecodeAny
import Derived.Shelf.Slices.Reverse
import Derived.Shelf.Slices.Cells
import Derived.Test.YtebpggfccljagaaGreatDoorProg
import Derived.Test.YtebpggfccljagaaGreatDoorC5
import Derived.Lib.AppendIntMem
import Derived.Lib.Join
import Derived.Lib.ItoaLen
/- The library's contracts that these texts use, laid at this dump (written by the kit's lay-shelf and lay-plain, pruned by mkshelf.py). -/
namespace Go.Proofs
open Go.Shelf
def Tryz.lays156_ren : Go.Shelf.Ren := ⟨fun | 156 => 43 | 165 => 73 | 166 => 58 | 169 => 59 | 240 => 83 | 241 => 96 | 276 => 101 | 277 => 125 | n => n, fun | 31 => 77 | 9 => 9 | 3 => 3 | 4 => 4 | 0 => 0 | 20 => 20 | 72 => 99 | 76 => 102 | 70 => 96 | 37 => 97 | 75 => 101 | 127 => 128 | 164 => 143 | 5 => 5 | 80 => 82 | n => n, fun | n => n⟩
theorem Tryz.lays156 : Go.Proofs.Lays.n156 Tryz.prog Tryz.lays156_ren := {
  mixed := by kernel_rfl
  f156 := Tryz.func43.trans (congrArg some (by kernel_rfl))
  f165 := Tryz.func73.trans (congrArg some (by kernel_rfl))
  f166 := Tryz.func58.trans (congrArg some (by kernel_rfl))
  f169 := Tryz.func59.trans (congrArg some (by kernel_rfl))
  f240 := Tryz.func83.trans (congrArg some (by kernel_rfl))
  f241 := Tryz.func96.trans (congrArg some (by kernel_rfl))
  f276 := Tryz.func101.trans (congrArg some (by kernel_rfl))
  f277 := Tryz.func125.trans (congrArg some (by kernel_rfl))
  t0 := Tryz.underlying0
  a0 := Tryz.isAgg0
  z0 := Tryz.sizeOf0
  v0 := Tryz.zeroValue0
  t3 := Tryz.underlying3
  a3 := Tryz.isAgg3
  z3 := Tryz.sizeOf3
  v3 := Tryz.zeroValue3
  t4 := Tryz.underlying4
  a4 := Tryz.isAgg4
  z4 := Tryz.sizeOf4
  v4 := Tryz.zeroValue4
  t9 := Tryz.underlying9
  a9 := Tryz.isAgg9
  z9 := Tryz.sizeOf9
  v9 := Tryz.zeroValue9
  t20 := Tryz.underlying20
  a20 := Tryz.isAgg20
  z20 := Tryz.sizeOf20
  v20 := Tryz.zeroValue20
  t31 := Tryz.underlying77
  a31 := Tryz.isAgg77
  z31 := Tryz.sizeOf77
  v31 := Tryz.zeroValue77
  t37 := Tryz.underlying97
  a37 := Tryz.isAgg97
  z37 := Tryz.sizeOf97
  v37 := Tryz.zeroValue97
  t70 := Tryz.underlying96
  a70 := Tryz.isAgg96
  z70 := Tryz.sizeOf96
  v70 := Tryz.zeroValue96
  t72 := Tryz.underlying99
  a72 := Tryz.isAgg99
  z72 := Tryz.sizeOf99
  v72 := Tryz.zeroValue99
  t75 := Tryz.underlying101
  a75 := Tryz.isAgg101
  z75 := Tryz.sizeOf101
  v75 := Tryz.zeroValue101
  t76 := Tryz.underlying102
  a76 := Tryz.isAgg102
  z76 := Tryz.sizeOf102
  v76 := Tryz.zeroValue102
  t127 := Tryz.underlying128
  a127 := Tryz.isAgg128
  z127 := Tryz.sizeOf128
  v127 := Tryz.zeroValue128
  t164 := Tryz.underlying143
  a164 := Tryz.isAgg143
  z164 := Tryz.sizeOf143
  v164 := Tryz.zeroValue143 }
theorem Tryz.Builder_Extra_156 : Builder.Extra Tryz.prog Tryz.lays156_ren := {
  sizeBuilder := by kernel_rfl
  liesBuilder := by kernel_rfl
  t5 := Tryz.underlying5
  a5 := Tryz.isAgg5
  z5 := Tryz.sizeOf5
  v5 := Tryz.zeroValue5
  infoByte := by kernel_rfl
  cellsByte := by kernel_rfl
  sizeByte := by kernel_rfl
  neB5 := by decide }
open Go.RowKit in
theorem Tryz.strings_Join_none (a : Option Addr) (c : Nat) (sep : ByteArray) (w : World) :
    Calls Tryz.prog 43 #[.slice a 0 c, .string sep] w fun e w' => e = .returned (.string ⟨#[]⟩) ∧ w' = w := Any.strings_Join_none Tryz.lays156 Tryz.Builder_Extra_156 a c sep w
open Go.RowKit in
theorem Tryz.strings_Join (bk o c : Nat) (xs : List ByteArray) (sep : ByteArray) (w : World) (hcells : ∀ (j : Nat) x, xs[j]? = some x → w.cell? ⟨bk, o + j, none⟩ = some (.string x)) (hbk : bk < w.heap.size) (hN : xs.length ≤ 140737488355328) (hcap : xs.length ≤ c) (hlen : (Lib.join (xs.map (·.data.toList)) sep.data.toList).length ≤ 140737488355328) :
    Calls Tryz.prog 43 #[.slice (some ⟨bk, o, none⟩) xs.length c, .string sep] w fun e w' => e = .returned (.string ⟨(Lib.join (xs.map (·.data.toList)) sep.data.toList).toArray⟩) ∧ Below w.heap.size w w' := Any.strings_Join Tryz.lays156 Tryz.Builder_Extra_156 bk o c xs sep w hcells hbk hN hcap hlen
def Tryz.laysM171_ren : Go.Shelf.Ren := ⟨fun | 171 => 72 | 243 => 95 | 246 => 99 | 283 => 128 | 284 => 129 | 285 => 130 | 286 => 131 | 129 => 154 | 317 => 153 | 318 => 155 | 319 => 156 | 320 => 157 | 337 => 166 | 338 => 167 | n => n, fun | 3 => 3 | 9 => 9 | 2 => 2 | 4 => 4 | 171 => 179 | 0 => 0 | 53 => 161 | 37 => 97 | 5 => 5 | 173 => 182 | 212 => 201 | 51 => 163 | 20 => 20 | 213 => 202 | 46 => 185 | 232 => 221 | 233 => 222 | n => n, fun | 17 => 1 | 18 => 4 | 19 => 5 | n => n⟩
theorem Tryz.laysM171 : Go.Proofs.LaysM.n171 Tryz.prog Tryz.laysM171_ren := {
  mixed := by kernel_rfl
  f129 := Tryz.func154.trans (congrArg some (by kernel_rfl))
  f171 := Tryz.func72.trans (congrArg some (by kernel_rfl))
  f243 := Tryz.func95.trans (congrArg some (by kernel_rfl))
  f246 := Tryz.func99.trans (congrArg some (by kernel_rfl))
  f283 := Tryz.func128.trans (congrArg some (by kernel_rfl))
  f284 := Tryz.func129.trans (congrArg some (by kernel_rfl))
  f285 := Tryz.func130.trans (congrArg some (by kernel_rfl))
  f286 := Tryz.func131.trans (congrArg some (by kernel_rfl))
  f317 := Tryz.func153.trans (congrArg some (by kernel_rfl))
  f318 := Tryz.func155.trans (congrArg some (by kernel_rfl))
  f319 := Tryz.func156.trans (congrArg some (by kernel_rfl))
  f320 := Tryz.func157.trans (congrArg some (by kernel_rfl))
  f337 := Tryz.func166.trans (congrArg some (by kernel_rfl))
  f338 := Tryz.func167.trans (congrArg some (by kernel_rfl))
  t0 := Tryz.underlying0
  a0 := Tryz.isAgg0
  z0 := Tryz.sizeOf0
  v0 := Tryz.zeroValue0
  t2 := Tryz.underlying2
  a2 := Tryz.isAgg2
  z2 := Tryz.sizeOf2
  v2 := Tryz.zeroValue2
  t3 := Tryz.underlying3
  a3 := Tryz.isAgg3
  z3 := Tryz.sizeOf3
  v3 := Tryz.zeroValue3
  t4 := Tryz.underlying4
  a4 := Tryz.isAgg4
  z4 := Tryz.sizeOf4
  v4 := Tryz.zeroValue4
  t5 := Tryz.underlying5
  a5 := Tryz.isAgg5
  z5 := Tryz.sizeOf5
  v5 := Tryz.zeroValue5
  t9 := Tryz.underlying9
  a9 := Tryz.isAgg9
  z9 := Tryz.sizeOf9
  v9 := Tryz.zeroValue9
  t20 := Tryz.underlying20
  a20 := Tryz.isAgg20
  z20 := Tryz.sizeOf20
  v20 := Tryz.zeroValue20
  t37 := Tryz.underlying97
  a37 := Tryz.isAgg97
  z37 := Tryz.sizeOf97
  v37 := Tryz.zeroValue97
  t46 := Tryz.underlying185
  a46 := Tryz.isAgg185
  z46 := Tryz.sizeOf185
  v46 := Tryz.zeroValue185
  t51 := Tryz.underlying163
  a51 := Tryz.isAgg163
  z51 := Tryz.sizeOf163
  v51 := Tryz.zeroValue163
  t53 := Tryz.underlying161
  a53 := Tryz.isAgg161
  z53 := Tryz.sizeOf161
  v53 := Tryz.zeroValue161
  t171 := Tryz.underlying179
  a171 := Tryz.isAgg179
  z171 := Tryz.sizeOf179
  v171 := Tryz.zeroValue179
  t173 := Tryz.underlying182
  a173 := Tryz.isAgg182
  z173 := Tryz.sizeOf182
  v173 := Tryz.zeroValue182
  t212 := Tryz.underlying201
  a212 := Tryz.isAgg201
  z212 := Tryz.sizeOf201
  v212 := Tryz.zeroValue201
  t213 := Tryz.underlying202
  a213 := Tryz.isAgg202
  z213 := Tryz.sizeOf202
  t232 := Tryz.underlying221
  a232 := Tryz.isAgg221
  z232 := Tryz.sizeOf221
  v232 := Tryz.zeroValue221
  t233 := Tryz.underlying222
  a233 := Tryz.isAgg222
  z233 := Tryz.sizeOf222
  v233 := Tryz.zeroValue222
  g17 := by kernel_rfl
  g18 := by kernel_rfl
  g19 := by kernel_rfl
  i0 := by kernel_rfl
  i2 := by kernel_rfl
  i3 := by kernel_rfl
  i4 := by kernel_rfl
  i5 := by kernel_rfl
  i9 := by kernel_rfl
  i20 := by kernel_rfl
  i37 := by kernel_rfl
  i46 := by kernel_rfl
  i51 := by kernel_rfl
  i53 := by kernel_rfl
  i171 := by kernel_rfl
  i173 := by kernel_rfl
  i212 := by kernel_rfl
  i232 := by kernel_rfl
  i233 := by kernel_rfl
  m17 := by kernel_rfl
  m18 := by kernel_rfl
  m19 := by kernel_rfl }
open Go.RowKit Go.Sort Go.Lib in
theorem Tryz.strconv_Itoa (n : Int) (h0 : -9223372036854775808 ≤ n) (h1 : n ≤ 9223372036854775807) (w : World) (htab : Lib.TabIs Tryz.prog w "internal/strconv.uint64pow10" .u64 Lib.pow10Tab) :
    Calls Tryz.prog 72 #[.int .i64 n] w fun e w' => e = .returned (.string ⟨(Lib.itoa n).toArray⟩) ∧ ∃ k os, w' = grow (w.drewN k) os := Any.strconv_Itoa Tryz.laysM171 n h0 h1 w htab
def Tryz.lays145_ren : Go.Shelf.Ren := ⟨fun | 145 => 57 | 220 => 82 | 219 => 100 | 217 => 132 | 225 => 133 | 224 => 134 | 267 => 135 | 266 => 158 | 314 => 159 | n => n, fun | 9 => 9 | 4 => 4 | 59 => 94 | 3 => 3 | 5 => 5 | 46 => 185 | 146 => 204 | 51 => 163 | n => n, fun | 1 => 0 | n => n⟩
theorem Tryz.lays145 : Go.Proofs.Lays.n145 Tryz.prog Tryz.lays145_ren := {
  mixed := by kernel_rfl
  f145 := Tryz.func57.trans (congrArg some (by kernel_rfl))
  f217 := Tryz.func132.trans (congrArg some (by kernel_rfl))
  f219 := Tryz.func100.trans (congrArg some (by kernel_rfl))
  f220 := Tryz.func82.trans (congrArg some (by kernel_rfl))
  f224 := Tryz.func134.trans (congrArg some (by kernel_rfl))
  f225 := Tryz.func133.trans (congrArg some (by kernel_rfl))
  f266 := Tryz.func158.trans (congrArg some (by kernel_rfl))
  f267 := Tryz.func135.trans (congrArg some (by kernel_rfl))
  f314 := Tryz.func159.trans (congrArg some (by kernel_rfl))
  t3 := Tryz.underlying3
  a3 := Tryz.isAgg3
  z3 := Tryz.sizeOf3
  v3 := Tryz.zeroValue3
  t4 := Tryz.underlying4
  a4 := Tryz.isAgg4
  z4 := Tryz.sizeOf4
  v4 := Tryz.zeroValue4
  t5 := Tryz.underlying5
  a5 := Tryz.isAgg5
  z5 := Tryz.sizeOf5
  v5 := Tryz.zeroValue5
  t9 := Tryz.underlying9
  a9 := Tryz.isAgg9
  z9 := Tryz.sizeOf9
  v9 := Tryz.zeroValue9
  t46 := Tryz.underlying185
  a46 := Tryz.isAgg185
  z46 := Tryz.sizeOf185
  v46 := Tryz.zeroValue185
  t51 := Tryz.underlying163
  a51 := Tryz.isAgg163
  z51 := Tryz.sizeOf163
  v51 := Tryz.zeroValue163
  t59 := Tryz.underlying94
  a59 := Tryz.isAgg94
  z59 := Tryz.sizeOf94
  v59 := Tryz.zeroValue94
  t146 := Tryz.underlying204
  a146 := Tryz.isAgg204
  z146 := Tryz.sizeOf204
  v146 := Tryz.zeroValue204
  g1 := by kernel_rfl }
open Go.RowKit Go.Lib in
theorem Tryz.strings_Cut (s sep : ByteArray) (m : Int) (w : World) (hs : s.size < 4294967281) (hm : w.cell? ⟨0, 0, none⟩ = some (.int .i64 m)) :
    Calls Tryz.prog 57 #[.string s, .string sep] w fun e w' => e = .returned (.tuple #[.string ⟨(Lib.cut s.data.toList sep.data.toList).1.toArray⟩, .string ⟨(Lib.cut s.data.toList sep.data.toList).2.1.toArray⟩, .bool (Lib.cut s.data.toList sep.data.toList).2.2]) ∧ ∃ n, w' = w.drewN n := Any.strings_Cut Tryz.lays145 s sep m w hs hm
open Go.RowKit Go.Lib in
def Tryz.lays99_ren : Go.Shelf.Ren := ⟨fun | 99 => 36 | 206 => 64 | n => n, fun | 9 => 9 | 4 => 4 | 3 => 3 | n => n, fun | n => n⟩
theorem Tryz.lays99 : Go.Proofs.Lays.n99 Tryz.prog Tryz.lays99_ren := {
  mixed := by kernel_rfl
  f99 := Tryz.func36.trans (congrArg some (by kernel_rfl))
  f206 := Tryz.func64.trans (congrArg some (by kernel_rfl))
  t3 := Tryz.underlying3
  a3 := Tryz.isAgg3
  z3 := Tryz.sizeOf3
  v3 := Tryz.zeroValue3
  t4 := Tryz.underlying4
  a4 := Tryz.isAgg4
  z4 := Tryz.sizeOf4
  v4 := Tryz.zeroValue4
  t9 := Tryz.underlying9
  a9 := Tryz.isAgg9
  z9 := Tryz.sizeOf9
  v9 := Tryz.zeroValue9 }
open Go.RowKit Go.Lib in
theorem Tryz.strings_HasPrefix (s p : ByteArray) (w : World) :
    Calls Tryz.prog 36 #[.string s, .string p] w fun e w' => e = .returned (.bool (Lib.hasPrefix s.data.toList p.data.toList)) ∧ w' = w := Any.strings_HasPrefix Tryz.lays99 s p w
def Tryz.lays146_ren : Go.Shelf.Ren := ⟨fun | 146 => 34 | 221 => 63 | 268 => 84 | 138 => 54 | 143 => 80 | 195 => 78 | 197 => 102 | 218 => 79 | 219 => 100 | 260 => 136 | 217 => 132 | 225 => 133 | 224 => 134 | 267 => 135 | 266 => 158 | 314 => 159 | n => n, fun | 9 => 9 | 31 => 77 | 3 => 3 | 4 => 4 | 0 => 0 | 105 => 145 | 21 => 21 | 5 => 5 | 46 => 185 | 119 => 206 | 139 => 209 | 138 => 208 | 146 => 204 | 51 => 163 | n => n, fun | 1 => 0 | 3 => 2 | 4 => 3 | n => n⟩
theorem Tryz.lays146 : Go.Proofs.Lays.n146 Tryz.prog Tryz.lays146_ren := {
  mixed := by kernel_rfl
  f138 := Tryz.func54.trans (congrArg some (by kernel_rfl))
  f143 := Tryz.func80.trans (congrArg some (by kernel_rfl))
  f146 := Tryz.func34.trans (congrArg some (by kernel_rfl))
  f195 := Tryz.func78.trans (congrArg some (by kernel_rfl))
  f197 := Tryz.func102.trans (congrArg some (by kernel_rfl))
  f217 := Tryz.func132.trans (congrArg some (by kernel_rfl))
  f218 := Tryz.func79.trans (congrArg some (by kernel_rfl))
  f219 := Tryz.func100.trans (congrArg some (by kernel_rfl))
  f221 := Tryz.func63.trans (congrArg some (by kernel_rfl))
  f224 := Tryz.func134.trans (congrArg some (by kernel_rfl))
  f225 := Tryz.func133.trans (congrArg some (by kernel_rfl))
  f260 := Tryz.func136.trans (congrArg some (by kernel_rfl))
  f266 := Tryz.func158.trans (congrArg some (by kernel_rfl))
  f267 := Tryz.func135.trans (congrArg some (by kernel_rfl))
  f268 := Tryz.func84.trans (congrArg some (by kernel_rfl))
  f314 := Tryz.func159.trans (congrArg some (by kernel_rfl))
  t0 := Tryz.underlying0
  a0 := Tryz.isAgg0
  z0 := Tryz.sizeOf0
  v0 := Tryz.zeroValue0
  t3 := Tryz.underlying3
  a3 := Tryz.isAgg3
  z3 := Tryz.sizeOf3
  v3 := Tryz.zeroValue3
  t4 := Tryz.underlying4
  a4 := Tryz.isAgg4
  z4 := Tryz.sizeOf4
  v4 := Tryz.zeroValue4
  t5 := Tryz.underlying5
  a5 := Tryz.isAgg5
  z5 := Tryz.sizeOf5
  v5 := Tryz.zeroValue5
  t9 := Tryz.underlying9
  a9 := Tryz.isAgg9
  z9 := Tryz.sizeOf9
  v9 := Tryz.zeroValue9
  t21 := Tryz.underlying21
  a21 := Tryz.isAgg21
  z21 := Tryz.sizeOf21
  v21 := Tryz.zeroValue21
  t31 := Tryz.underlying77
  a31 := Tryz.isAgg77
  z31 := Tryz.sizeOf77
  v31 := Tryz.zeroValue77
  t46 := Tryz.underlying185
  a46 := Tryz.isAgg185
  z46 := Tryz.sizeOf185
  v46 := Tryz.zeroValue185
  t51 := Tryz.underlying163
  a51 := Tryz.isAgg163
  z51 := Tryz.sizeOf163
  v51 := Tryz.zeroValue163
  t105 := Tryz.underlying145
  a105 := Tryz.isAgg145
  z105 := Tryz.sizeOf145
  v105 := Tryz.zeroValue145
  t119 := Tryz.underlying206
  a119 := Tryz.isAgg206
  z119 := Tryz.sizeOf206
  t138 := Tryz.underlying208
  a138 := Tryz.isAgg208
  z138 := Tryz.sizeOf208
  v138 := Tryz.zeroValue208
  t139 := Tryz.underlying209
  a139 := Tryz.isAgg209
  z139 := Tryz.sizeOf209
  v139 := Tryz.zeroValue209
  t146 := Tryz.underlying204
  a146 := Tryz.isAgg204
  z146 := Tryz.sizeOf204
  v146 := Tryz.zeroValue204
  g1 := by kernel_rfl
  g3 := by kernel_rfl
  g4 := by kernel_rfl }
open Go.RowKit Go.Lib in
theorem Tryz.strings_Split (s sep : ByteArray) (m : Int) (w : World) (hs : s.size < 4294967281) (hm : w.cell? ⟨0, 0, none⟩ = some (.int .i64 m)) (h1 : 1 ≤ sep.size) :
    Calls Tryz.prog 34 #[.string s, .string sep] w fun e w' =>
      e = .returned (.slice (some ⟨w.heap.size, 0, none⟩) (Lib.countB s sep + 1) (Lib.countB s sep + 1)) ∧ w' = w.alloc (.cells ((Lib.splitB sep 0 (Lib.countB s sep) s).map Value.string).toArray 9) := Any.strings_Split Tryz.lays146 (by kernel_rfl) s sep m w hs hm h1
def Tryz.lays112_ren : Go.Shelf.Ren := ⟨fun | 112 => 62 | n => n, fun | 28 => 39 | 3 => 3 | 4 => 4 | 0 => 0 | n => n, fun | n => n⟩
theorem Tryz.lays112 : Go.Proofs.Lays.n112 Tryz.prog Tryz.lays112_ren := {
  mixed := by kernel_rfl
  f112 := Tryz.func62.trans (congrArg some (by kernel_rfl))
  t0 := Tryz.underlying0
  a0 := Tryz.isAgg0
  z0 := Tryz.sizeOf0
  v0 := Tryz.zeroValue0
  t3 := Tryz.underlying3
  a3 := Tryz.isAgg3
  z3 := Tryz.sizeOf3
  v3 := Tryz.zeroValue3
  t4 := Tryz.underlying4
  a4 := Tryz.isAgg4
  z4 := Tryz.sizeOf4
  v4 := Tryz.zeroValue4
  t28 := Tryz.underlying39
  a28 := Tryz.isAgg39
  z28 := Tryz.sizeOf39
  v28 := Tryz.zeroValue39 }
open Go.RowKit Go.Lib Go.Sort in
theorem Tryz.slices_Reverse_int (blk off cap : Nat) (zs : List Int) (w : World) (hH : Holds (Value.int .i64) w blk off zs.toArray) (hsz : zs.length ≤ 9223372036854775807) :
    Calls Tryz.prog 62 #[.slice (some ⟨blk, off, none⟩) zs.length cap] w fun e w' => e = .returned (.tuple #[]) ∧ ∃ n, w' = putRow (Value.int .i64) (Sort.ahead w n) blk off zs.reverse.toArray := Any.slices_Reverse_int Tryz.lays112 blk off cap zs w hH hsz
open Go.RowKit Go.Lib Go.Sort in
theorem Tryz.slices_Reverse_int_empty (a : Option Addr) (cap : Nat) (w : World) :
    Calls Tryz.prog 62 #[.slice a 0 cap] w fun e w' => e = .returned (.tuple #[]) ∧ w' = w := Any.slices_Reverse_int_empty Tryz.lays112 a cap w
end Go.Proofs

/- Rows of strings, Join, the table of powers of ten (from wip/words). -/
namespace Go.Proofs.YtebpggfccljagaaGreatDoor
open Go.RowKit
open Wh
set_option linter.unusedSimpArgs false
set_option linter.unusedVariables false

/-- the table of powers of ten, whatever is laid behind block B -/
def Tab (B : Nat) (w : World) : Prop := Lib.TabBelow Tryz.prog B w "internal/strconv.uint64pow10" .u64 Lib.pow10Tab
theorem Tab.here {B : Nat} {w : World} (h : Tab B w) : Lib.TabIs Tryz.prog w "internal/strconv.uint64pow10" .u64 Lib.pow10Tab := Lib.TabBelow.here h
theorem Tab.below {B B' : Nat} {w w' : World} (h : Tab B w) (hb : Below B' w w') (hB : B ≤ B') : Tab B w' := fun w2 h2 => h w2 ((hb.mono hB).trans h2)
theorem Tab.more {B B' : Nat} {w : World} (h : Tab B w) (hB : B ≤ B') : Tab B' w := fun w2 h2 => h w2 (h2.mono hB)
def bs (l : List UInt8) : Value := .string ⟨l.toArray⟩
theorem bs_one (l : List (List UInt8)) : ∀ u ∈ l.map bs, u.oneCell' = true := by
  intro u hu
  obtain ⟨b, _, rfl⟩ := List.mem_map.1 hu
  rfl
theorem infoS : (Tryz.prog.info? 9).map (fun i => (i.zero, i.size, i.bytes)) = some (some (.string ⟨#[]⟩), 1, 16) := by kernel_rfl
/-- strings in a row of one's own -/
def OwnS (w : World) (B : Nat) (v : Value) (l : List (List UInt8)) : Prop := w.ownsRow B 9 1 v l.length (l.map bs)
theorem OwnS.form {w : World} {B : Nat} {v : Value} {l : List (List UInt8)} (h : OwnS w B v l) : ∃ A c, v = .slice A l.length c ∧ l.length ≤ c ∧ c ≤ maxLen := by
  rcases h.2 with ⟨rfl, h0⟩ | ⟨g, cap, cur, rfl, _, _, hc, hm, _⟩
  · exact ⟨none, 0, by rw [h0], by omega, by unfold maxLen; omega⟩
  · exact ⟨_, cap, rfl, hc, hm⟩
theorem OwnS.alloc {w : World} {B : Nat} {v : Value} {l : List (List UInt8)} (h : OwnS w B v l) (o : Obj) : OwnS (w.alloc o) B v l := World.ownsRow.alloc h o
theorem OwnS.kept {w w' : World} {B : Nat} {v : Value} {l : List (List UInt8)} (h : OwnS w B v l) (hb : Below w.heap.size w w') : OwnS w' B v l := by
  refine ⟨h.1, ?_⟩
  rcases h.2 with h' | ⟨g, cap, cur, hv, hg, hh, r⟩
  · exact .inl h'
  · exact .inr ⟨g, cap, cur, hv, hg, (hb.block g (Array.getElem?_eq_some_iff.1 hh).1).trans hh, r⟩
theorem OwnS.lt {w : World} {B : Nat} {v : Value} {l : List (List UInt8)} (h : OwnS w B v l) : ∀ g, v.ownBlock = some g → B ≤ g ∧ g < w.heap.size := fun g hg => World.ownsRow.lt h g hg
theorem reads_singleS (w : World) (x : List UInt8) : Reads (w.alloc (.cells #[bs x] 9)) (w.heap.size + 1) 1 (some ⟨w.heap.size, 0, none⟩) 1 ([x].map bs) := by
  refine ⟨rfl, fun _ => ⟨_, rfl, Nat.lt_succ_self _, fun j u hu => ?_⟩⟩
  have hb := Blk.new w 9 #[bs x]
  match j, hu with
  | 0, hu => rw [Addr.add_zero', hb.cell 0]; exact hu
  | j + 1, hu => simp at hu
theorem wpS_append {w : World} {ops : Array Oper} {rest : List Oper} {o : Oper} {a : Act} {Q : Exit → Act → World → Prop} (hgd : o.guard = none) (s x : Operand)
    (ho : o.op = .call { callee := .builtin .append, args := #[s, x], argTypes := #[77, 77] }) (B : Nat) (v : Value) (l m : List (List UInt8)) (hown : OwnS w B v l) (hs : a.eval s = v)
    {B' : Nat} {A : Option Addr} {k c : Nat} (hx : a.eval x = .slice A k c) (hk : k = m.length) (hr : Reads w B' 1 A m.length (m.map bs)) (hlen : l.length ≤ 1000000000) (hlm : m.length ≤ 1000000000) (hbase : B ≤ w.heap.size)
    (h : ∀ A' n' c' w', OwnS w' B (.slice A' n' c') (l ++ m) → n' = l.length + m.length → n' ≤ c' → w.grownBy w' v.ownBlock → (∀ w0, Below B w0 w → Below B w0 w') → wpList Tryz.prog ops Q rest (a.put o.dst (.slice A' n' c')) w') :
    wpList Tryz.prog ops Q (o :: rest) a w := by
  obtain ⟨i0, hi, hz0, hz1, hz2⟩ := info_parts infoS
  subst hk
  refine wpList_append_any _ hgd s x 77 ho B 9 i0 (.string ⟨#[]⟩) 1 16 Tryz.underlying77 hi hz0 hz1 hz2 rfl (by decide) v l.length (l.map bs) hs hown _ _ m.length c (m.map bs) hx hr (bs_one _) (by unfold maxLen; omega) (by omega) hbase ?_
  intro v' w' h1 h2 h3
  have h4 : OwnS w' B v' (l ++ m) := by
    unfold OwnS
    rw [List.length_append, List.map_append]
    exact h1
  obtain ⟨A', c', rfl, hc', _⟩ := h4.form
  exact h A' _ c' w' h4 (List.length_append ..) hc' h2 (fun w0 hb => hb.grown h2 hbase (fun k hk => (World.ownsRow.lt hown k hk).1))
theorem join_any {w : World} {B n c : Nat} {A : Option Addr} {l : List (List UInt8)} (h : OwnS w B (.slice A n c) l) (h1 : 1 ≤ l.length) (h2 : l.length ≤ 100000) (hs : (Lib.join l [46]).length ≤ 140737488355328) :
    Calls Tryz.prog 43 #[.slice A n c, .string ⟨#[46]⟩] w (fun e w' => e = .returned (bs (Lib.join l [46])) ∧ Below w.heap.size w w') := by
  obtain ⟨A', c', e, hc, hm⟩ := h.form
  injection e with e1 e2 e3
  subst e1 e2 e3
  have h' : w.ownsRow B 9 1 (.slice A l.length c) l.length (l.map bs) := h
  obtain ⟨g, cap, hv, hg1, hg2⟩ := h'.form (by omega)
  injection hv with e1 _ e3
  subst e1 e3
  have hx : ((l.map (fun b => (⟨b.toArray⟩ : ByteArray))).map (·.data.toList)) = l := by
    rw [List.map_map]
    have : ((fun b : ByteArray => b.data.toList) ∘ fun b : List UInt8 => (⟨b.toArray⟩ : ByteArray)) = id := by funext b; rfl
    rw [this, List.map_id]
  have hj := Tryz.strings_Join g 0 c (l.map (fun b => (⟨b.toArray⟩ : ByteArray))) ⟨#[46]⟩ w (fun j x hj => by
    rw [Nat.zero_add]
    have hc := h'.cells (g := g) rfl j (bs x.data.toList) (by
      rw [List.getElem?_map] at hj ⊢
      cases hlj : l[j]? with
      | none => rw [hlj] at hj; cases hj
      | some b => rw [hlj] at hj; injection hj with hj; subst hj; rfl)
    have e : (⟨g, 0, none⟩ : Addr).add j = ⟨g, j, none⟩ := by rw [Addr.add_lit, Nat.zero_add]
    rw [e] at hc
    exact hc) hg2 (by rw [List.length_map]; omega) (by rw [List.length_map]; exact hc) (by rw [hx]; exact hs)
  rw [hx, List.length_map] at hj
  exact hj
theorem join_small (l : List Int) (h : l.length ≤ 100000) (hl : ∀ k ∈ l, -4096 ≤ k ∧ k ≤ 4096) : (Lib.join (l.map Lib.itoa) [46]).length ≤ 140737488355328 := by
  have hs : ∀ (l : List Int), (∀ k ∈ l, -4096 ≤ k ∧ k ≤ 4096) → Lib.lens (l.map Lib.itoa) ≤ 21 * l.length := by
    intro l
    induction l with
    | nil => intro _; exact Nat.le_refl _
    | cons k r ih =>
      intro h
      have h1 := ih (fun x hx => h x (by simp [hx]))
      have h2 := h k (by simp)
      have h3 := Lib.itoa_length_le k (by omega) (by omega)
      have e : Lib.lens (Lib.itoa k :: List.map Lib.itoa r) = (Lib.itoa k).length + Lib.lens (List.map Lib.itoa r) := by simp [Lib.lens]
      rw [List.map_cons, e, List.length_cons]
      omega
  cases l with
  | nil => simp [Lib.join]
  | cons k r =>
    have h1 := hs (k :: r) hl
    rw [List.map_cons] at h1 ⊢
    rw [Lib.join_length, List.length_map]
    simp only [List.length_cons, List.length_nil] at h h1 ⊢
    omega
theorem OwnS.nil (w : World) (B : Nat) : OwnS w B (.slice none 0 0) [] := World.ownsRow_nil w B _ 1
theorem join_all {w : World} {B n c : Nat} {A : Option Addr} {l : List (List UInt8)} (h : OwnS w B (.slice A n c) l) (h2 : l.length ≤ 100000) (hs : (Lib.join l [46]).length ≤ 140737488355328) :
    Calls Tryz.prog 43 #[.slice A n c, .string ⟨#[46]⟩] w (fun e w' => e = .returned (bs (Lib.join l [46])) ∧ Below w.heap.size w w') := by
  rcases Nat.eq_zero_or_pos l.length with h0 | h0
  · obtain ⟨A', c', e, _⟩ := h.form
    injection e with e1 e2 e3
    rw [e2, h0, List.eq_nil_of_length_eq_zero h0]
    refine (Tryz.strings_Join_none A c ⟨#[46]⟩ w).mono ?_
    rintro e w' ⟨h1, h2⟩
    exact ⟨h1, by rw [h2]; exact Below.refl _ _⟩
  · exact join_any h h0 h2 hs
/-- a word's text, between its brackets -/
def wtx (l : List Int) : List UInt8 := Lib.join (l.map Lib.itoa) [46]
/-- an argument's text -/
def argT (x : ArgP) : List UInt8 :=
  if x.k = 1 then x.nm.data.toList
  else if x.k = 2 then 40 :: (txtF (num (x.n0, x.s0)) (num (x.n1, x.s1)) ++ [44] ++ txtF (num (x.n2, x.s2)) (num (x.n3, x.s3)) ++ [41])
  else if x.k = 3 then [40, 105, 110, 102, 41]
  else if x.k = 4 then 91 :: (wtx x.wd ++ [93])
  else 35 :: Lib.itoa x.ct
end Go.Proofs.YtebpggfccljagaaGreatDoor

/- script.told (printed by gen_told.py). -/
namespace Go.Proofs.YtebpggfccljagaaGreatDoor
open Go.RowKit
open Wh
set_option linter.unusedSimpArgs false
set_option linter.unusedVariables false

theorem bs_of (s : ByteArray) : bs s.data.toList = .string s := by unfold bs; rfl
theorem bs_sz {t : List UInt8} {m : Nat} (h : t.length ≤ m) : (⟨t.toArray⟩ : ByteArray).size ≤ m := by show t.toArray.size ≤ m; rw [List.size_toArray]; exact h
theorem txtF_len {na nb : Bool} {sa sb : ByteArray} (h : MayFr na sa nb sb) : (txtF (num (na, sa)) (num (nb, sb))).length ≤ 7000 := by
  have h1 := txt_len (n := na) (s := sa)
  have h2 := txt_len (n := nb) (s := sb)
  have h3 := h.al
  have h4 := h.bl
  unfold txtF
  split
  · omega
  · rw [List.length_append, List.length_cons]; omega
theorem cat5 (ta tb : ByteArray) (a b : List UInt8) (ha : ta = ⟨a.toArray⟩) (hb : tb = ⟨b.toArray⟩) : (.string (⟨#[40]⟩ ++ ta ++ ⟨#[44]⟩ ++ tb ++ ⟨#[41]⟩) : Value) = bs (40 :: (a ++ [44] ++ b ++ [41])) := by
  subst ha hb
  unfold bs
  congr 1
set_option maxRecDepth 100000 in
set_option maxHeartbeats 4000000 in
theorem told_1 {w : World} {ct : Int} {nm : ByteArray} {n0 n1 n2 n3 : Bool} {s0 s1 s2 s3 : ByteArray} {A : Option Addr} {n c B : Nat}  :
    Calls Tryz.prog 42 #[.agg #[.int .i64 1, .string nm, .bool n0, .string s0, .bool n1, .string s1, .bool n2, .string s2, .bool n3, .string s3, .slice A n c, .int .i64 ct]] w (fun e w' => e = .returned (.string nm) ∧ Below w.heap.size w w') := by
  have hbx := Box.new w 41 #[.int .i64 1, .string nm, .bool n0, .string s0, .bool n1, .string s1, .bool n2, .string s2, .bool n3, .string s3, .slice A n c, .int .i64 ct]
  go_enter Tryz.func42, Tryz.ntmps42
  go_wp2_with fail
  go_ret
  exact ⟨rfl, hbx.2⟩
set_option maxRecDepth 100000 in
set_option maxHeartbeats 4000000 in
theorem told_3 {w : World} {ct : Int} {nm : ByteArray} {n0 n1 n2 n3 : Bool} {s0 s1 s2 s3 : ByteArray} {A : Option Addr} {n c B : Nat}  :
    Calls Tryz.prog 42 #[.agg #[.int .i64 3, .string nm, .bool n0, .string s0, .bool n1, .string s1, .bool n2, .string s2, .bool n3, .string s3, .slice A n c, .int .i64 ct]] w (fun e w' => e = .returned (bs [40, 105, 110, 102, 41]) ∧ Below w.heap.size w w') := by
  have hbx := Box.new w 41 #[.int .i64 3, .string nm, .bool n0, .string s0, .bool n1, .string s1, .bool n2, .string s2, .bool n3, .string s3, .slice A n c, .int .i64 ct]
  go_enter Tryz.func42, Tryz.ntmps42
  go_wp2_with fail
  go_ret
  exact ⟨rfl, hbx.2⟩
set_option maxRecDepth 100000 in
set_option maxHeartbeats 4000000 in
theorem told_5 {w : World} {ct : Int} {nm : ByteArray} {n0 n1 n2 n3 : Bool} {s0 s1 s2 s3 : ByteArray} {A : Option Addr} {n c B : Nat} (ht : Tab B w) (hB : B ≤ w.heap.size) (h0 : 0 ≤ ct) (h1 : ct ≤ 2147483647) :
    Calls Tryz.prog 42 #[.agg #[.int .i64 5, .string nm, .bool n0, .string s0, .bool n1, .string s1, .bool n2, .string s2, .bool n3, .string s3, .slice A n c, .int .i64 ct]] w (fun e w' => e = .returned (bs (35 :: Lib.itoa ct)) ∧ Below w.heap.size w w') := by
  have HI : Hid (∀ W, Below w.heap.size w W → Calls Tryz.prog 72 #[.int .i64 ct] W (fun e w' => e = .returned (bs (Lib.itoa ct)) ∧ Below W.heap.size W w')) := Lib.hid fun W hb => (Tryz.strconv_Itoa ct (by omega) (by omega) W (ht.below hb hB).here).mono fun e w' ⟨e1, k, os, e2⟩ => ⟨e1, by rw [e2]; exact Lib.below_grow _ _ (Nat.le_refl _) _ _⟩
  have hl := Lib.itoa_length_le ct (by omega) (by omega)
  obtain ⟨q, hq⟩ : ∃ q : ByteArray, q = ⟨(Lib.itoa ct).toArray⟩ := ⟨_, rfl⟩
  have hqs : q.size ≤ 100 := by rw [hq]; exact bs_sz (by omega)
  have Hcat := Lib.hid (show (.string (⟨#[35]⟩ ++ q) : Value) = bs (35 :: Lib.itoa ct) by rw [hq]; unfold bs; congr 1)
  unfold bs at HI
  rw [← hq] at HI
  clear ht hl hq h0 h1
  have hbx := Box.new w 41 #[.int .i64 5, .string nm, .bool n0, .string s0, .bool n1, .string s1, .bool n2, .string s2, .bool n3, .string s3, .slice A n c, .int .i64 ct]
  have hbw := hbx.2
  go_enter Tryz.func42, Tryz.ntmps42
  go_wp2_with (go_at_call 72; (with_reducible refine (HI.out _ ?_).mono ?_); (first | exact hbw | skip); rintro _ _ ⟨rfl, hb2⟩; have hbw := hbw.trans (hb2.mono hbw.size))
  go_ret
  exact ⟨by rw [← Hcat.out]; rfl, hbw⟩
set_option maxRecDepth 100000 in
set_option maxHeartbeats 4000000 in
theorem told_2 {w : World} {ct : Int} {nm : ByteArray} {n0 n1 n2 n3 : Bool} {s0 s1 s2 s3 : ByteArray} {A : Option Addr} {n c B : Nat} (hg : MayGs n0 s0 n1 s1 n2 s2 n3 s3) :
    Calls Tryz.prog 42 #[.agg #[.int .i64 2, .string nm, .bool n0, .string s0, .bool n1, .string s1, .bool n2, .string s2, .bool n3, .string s3, .slice A n c, .int .i64 ct]] w (fun e w' => e = .returned (bs (40 :: (txtF (num (n0, s0)) (num (n1, s1)) ++ [44] ++ txtF (num (n2, s2)) (num (n3, s3)) ++ [41]))) ∧ Below w.heap.size w w') := by
  obtain ⟨ta, hta⟩ : ∃ t : ByteArray, t = ⟨(txtF (num (n0, s0)) (num (n1, s1))).toArray⟩ := ⟨_, rfl⟩
  have la : ta.size ≤ 7000 := by rw [hta]; exact bs_sz (txtF_len hg.re)
  have HTa : Hid (∀ W, Calls Tryz.prog 71 #[.agg #[.bool n0, .string s0, .bool n1, .string s1]] W (fun e w' => e = .returned (.tuple #[.string ta, .int .i64 0]) ∧ Below W.heap.size W w')) := Lib.hid fun W => by rw [hta]; exact textf_yes hg.re
  obtain ⟨tb, htb⟩ : ∃ t : ByteArray, t = ⟨(txtF (num (n2, s2)) (num (n3, s3))).toArray⟩ := ⟨_, rfl⟩
  have lb : tb.size ≤ 7000 := by rw [htb]; exact bs_sz (txtF_len hg.im)
  have HTb : Hid (∀ W, Calls Tryz.prog 71 #[.agg #[.bool n2, .string s2, .bool n3, .string s3]] W (fun e w' => e = .returned (.tuple #[.string tb, .int .i64 0]) ∧ Below W.heap.size W w')) := Lib.hid fun W => by rw [htb]; exact textf_yes hg.im
  have Hcat := Lib.hid (cat5 ta tb _ _ hta htb)
  clear hta htb hg
  have hbx := Box.new w 41 #[.int .i64 2, .string nm, .bool n0, .string s0, .bool n1, .string s1, .bool n2, .string s2, .bool n3, .string s3, .slice A n c, .int .i64 ct]
  go_enter Tryz.func42, Tryz.ntmps42
  go_wp2_with (first
      | (go_at_call 71; (with_reducible refine (HTa.out _).mono ?_); rintro _ _ ⟨rfl, hb1⟩; have hbx := hbx.next hb1; have c0 := hbx.1.cell 0; have c1 := hbx.1.cell 1; have c2 := hbx.1.cell 2; have c3 := hbx.1.cell 3; have c4 := hbx.1.cell 4; have c5 := hbx.1.cell 5; have c6 := hbx.1.cell 6; have c7 := hbx.1.cell 7; have c8 := hbx.1.cell 8; have c9 := hbx.1.cell 9; have c10 := hbx.1.cell 10; have c11 := hbx.1.cell 11; clear hb1)
      | (go_at_call 71; (with_reducible refine (HTb.out _).mono ?_); rintro _ _ ⟨rfl, hb1⟩; have hbx := hbx.next hb1; have c0 := hbx.1.cell 0; have c1 := hbx.1.cell 1; have c2 := hbx.1.cell 2; have c3 := hbx.1.cell 3; have c4 := hbx.1.cell 4; have c5 := hbx.1.cell 5; have c6 := hbx.1.cell 6; have c7 := hbx.1.cell 7; have c8 := hbx.1.cell 8; have c9 := hbx.1.cell 9; have c10 := hbx.1.cell 10; have c11 := hbx.1.cell 11; clear hb1))
  go_ret
  exact ⟨by rw [← Hcat.out]; rfl, hbx.2⟩
end Go.Proofs.YtebpggfccljagaaGreatDoor

/- script.told, ref30.ArgText: a word. -/
namespace Go.Proofs.YtebpggfccljagaaGreatDoor
open Go.RowKit
open Wh
set_option linter.unusedSimpArgs false
set_option linter.unusedVariables false

set_option maxRecDepth 100000 in
set_option maxHeartbeats 4000000 in
theorem told_4 {w : World} {ct : Int} {nm : ByteArray} {n0 n1 n2 n3 : Bool} {s0 s1 s2 s3 : ByteArray} {A : Option Addr} {n c B : Nat} {l : List Int} (ht : Tab B w) (hr : ReadsI w B A l) (hB : B ≤ w.heap.size) (hn : n = l.length) (hl : ∀ k ∈ l, -4096 ≤ k ∧ k ≤ 4096) (hnl : n ≤ 4096) :
    Calls Tryz.prog 42 #[.agg #[.int .i64 4, .string nm, .bool n0, .string s0, .bool n1, .string s1, .bool n2, .string s2, .bool n3, .string s3, .slice A n c, .int .i64 ct]] w (fun e w' => e = .returned (bs (91 :: (wtx l ++ [93]))) ∧ Below w.heap.size w w') := by
  have Hn := Lib.hid hn
  have Hl := Lib.hid hl
  have Hr := Lib.hid (hr.more hB)
  have Ht := Lib.hid (ht.more hB)
  clear hr hl hn ht hB
  have hbx := Box.new w 41 #[.int .i64 4, .string nm, .bool n0, .string s0, .bool n1, .string s1, .bool n2, .string s2, .bool n3, .string s3, .slice A n c, .int .i64 ct]
  have Hbx := Lib.hid hbx.2
  clear hbx
  go_enter Tryz.func42, Tryz.ntmps42
  go_wp2_with fail
  go_loopg [7, 45] n (fun k lv iv wr => ∃ (i : Nat) (A' : Option Addr) (n' c' : Nat), lv = .slice A' n' c' ∧ iv = .int .i64 (i : Int) ∧ k = n - i ∧ i ≤ n ∧ Hid (OwnS wr w.heap.size (.slice A' n' c') ((l.take i).map Lib.itoa) ∧ Below w.heap.size w wr))
  case atStart => exact ⟨0, none, 0, 0, rfl, rfl, by omega, by omega, Lib.hid ⟨OwnS.nil _ _, Hbx.out⟩⟩
  case round =>
    obtain ⟨i, A1, n1, c1, rfl, rfl, hk, hi, hO⟩ := hrel
    have Hk := Lib.hid hk
    clear hk
    by_cases hin : i < n
    · have hil : i < l.length := by rw [← Hn.out]; exact hin
      obtain ⟨ad, rfl, hb1, c0⟩ := (Hr.out.below hO.out.2).at_ hil
      have hlet := Hl.out l[i] (List.getElem_mem hil)
      have Hst := Lib.hid (show (l.take (i + 1)).map Lib.itoa = (l.take i).map Lib.itoa ++ [Lib.itoa l[i]] by rw [List.take_succ_eq_append_getElem hil, List.map_append]; rfl)
      have hii : (i : Int) < (n : Int) := by omega
      generalize l[i] = k at *
      have HI := Lib.hid (Tryz.strconv_Itoa k (by omega) (by omega) wr (Ht.out.below hO.out.2 (Nat.le_refl _)).here)
      generalize Lib.itoa k = q at *
      clear hb1 hil hlet
      go_wp2_with fail
      refine HI.out.mono ?_
      rintro e w2 ⟨rfl, kk, os, hw2⟩
      have hb2 : Below wr.heap.size wr w2 := by rw [hw2]; exact Lib.below_grow _ _ (Nat.le_refl _) _ _
      have Hb2 := Lib.hid hb2
      clear hb2 hw2
      have hsz := hO.out.2.size
      go_wp2_with (refine wpS_append rfl (.tmp 49) (.tmp 52) rfl w.heap.size _ ((l.take i).map Lib.itoa) [q] ((hO.out.1.kept Hb2.out).alloc _) rfl rfl rfl (reads_singleS _ q) (by rw [List.length_map, List.length_take]; omega) (by simp) (by have := Hb2.out.size; simp; omega) ?_; intro A2 n2 c2 w3 ho2 hn2 hc2 hg2 hb3; have Ho2 := Lib.hid (And.intro ho2 (hb3 _ (((hO.out.2.trans (Hb2.out.mono hsz))).alloc (by have := Hb2.out.size; omega) _))); clear ho2 hn2 hc2 hg2 hb3)
      go_roundg (n - (i + 1))
      case measure => have := Hk.out; omega
      case rel => exact ⟨i + 1, A2, n2, c2, rfl, rfl, rfl, by omega, Lib.hid ⟨by rw [Hst.out]; exact Ho2.out.1, Ho2.out.2⟩⟩
    · have hii : (n : Int) ≤ (i : Int) := by omega
      have hiN : i = n := by omega
      subst hiN
      have ho : OwnS wr w.heap.size (.slice A1 n1 c1) (l.map Lib.itoa) := by
        have h := hO.out.1
        rw [List.take_of_length_le (by have := Hn.out; omega)] at h
        exact h
      have hsm := join_small l (by have := Hn.out; omega) Hl.out
      have HJ := Lib.hid (join_all (A := A1) (n := n1) (c := c1) ho (by have := Hn.out; rw [List.length_map]; omega) hsm)
      obtain ⟨q, hq⟩ : ∃ q : ByteArray, q = ⟨(Lib.join (l.map Lib.itoa) [46]).toArray⟩ := ⟨_, rfl⟩
      have hqs : q.size ≤ 140737488355328 := by rw [hq]; exact bs_sz hsm
      unfold bs at HJ
      rw [← hq] at HJ
      have Hcat := Lib.hid (show (.string (⟨#[91]⟩ ++ q ++ ⟨#[93]⟩) : Value) = bs (91 :: (wtx l ++ [93])) by rw [hq]; unfold bs; congr 1)
      clear ho hsm hq
      go_wp2_with fail
      refine HJ.out.mono ?_
      rintro e w2 ⟨rfl, hb2⟩
      have Hb2 := Lib.hid hb2
      clear hb2
      go_wp2_with fail
      go_ret
      exact ⟨by rw [← Hcat.out]; rfl, hO.out.2.trans (Hb2.out.mono hO.out.2.size)⟩
/-- the first so many letters' text -/
def wtxTo (l : List Int) (i : Nat) : List UInt8 := Lib.join ((l.take i).map Lib.itoa) [46]
theorem wtxTo_small (l : List Int) (hl : ∀ k ∈ l, -4096 ≤ k ∧ k ≤ 4096) (h : l.length ≤ 100000) (i : Nat) : (wtxTo l i).length ≤ 2200000 := by
  have hs : ∀ (l : List Int), (∀ k ∈ l, -4096 ≤ k ∧ k ≤ 4096) → Lib.lens (l.map Lib.itoa) ≤ 21 * l.length := by
    intro l
    induction l with
    | nil => intro _; exact Nat.le_refl _
    | cons k r ih =>
      intro h
      have h1 := ih (fun x hx => h x (by simp [hx]))
      have h2 := h k (by simp)
      have h3 := Lib.itoa_length_le k (by omega) (by omega)
      have e : Lib.lens (Lib.itoa k :: List.map Lib.itoa r) = (Lib.itoa k).length + Lib.lens (List.map Lib.itoa r) := by simp [Lib.lens]
      rw [List.map_cons, e, List.length_cons]
      omega
  unfold wtxTo
  have hlt : (l.take i).length ≤ 100000 := by rw [List.length_take]; omega
  have hlm : ∀ k ∈ l.take i, -4096 ≤ k ∧ k ≤ 4096 := fun k hk => hl k (List.mem_of_mem_take hk)
  generalize l.take i = m at *
  cases m with
  | nil => simp [Lib.join]
  | cons k r =>
    have h1 := hs (k :: r) hlm
    rw [List.map_cons] at h1 ⊢
    rw [Lib.join_length, List.length_map]
    simp only [List.length_cons, List.length_nil] at hlt h1 ⊢
    omega
end Go.Proofs.YtebpggfccljagaaGreatDoor

/- Arguments told; statements. -/
namespace Go.Proofs.YtebpggfccljagaaGreatDoor
open Go.RowKit
open Wh
set_option linter.unusedSimpArgs false
set_option linter.unusedVariables false

theorem atold_any {w : World} {B : Nat} {r : ARow} (ht : Tab B w) (h : ArgR w B r) (hB : B ≤ w.heap.size) (hk : r.2.2.ok) :
    Calls Tryz.prog 42 #[argV r] w (fun e w' => e = .returned (bs (argT r.2.2)) ∧ Below w.heap.size w w') := by
  obtain ⟨A, c, k, nm, n0, s0, n1, s1, n2, s2, n3, s3, l, ct⟩ := r
  have hw := h.wd
  unfold ArgP.ok at hk
  unfold argT argV
  simp only at hk hw ⊢
  by_cases h1 : k = 1
  · subst h1
    rw [if_pos rfl, bs_of]
    exact told_1 (B := B)
  rw [if_neg h1] at hk ⊢
  by_cases h2 : k = 2
  · subst h2
    rw [if_pos rfl] at hk ⊢
    exact told_2 (B := B) hk.2.1
  rw [if_neg h2] at hk ⊢
  by_cases h3 : k = 3
  · subst h3
    rw [if_pos rfl]
    exact told_3 (B := B)
  rw [if_neg h3] at hk ⊢
  by_cases h4 : k = 4
  · subst h4
    rw [if_pos rfl] at hk ⊢
    refine told_4 ht hw hB rfl (fun x hx => ?_) hk.2.2.2.1
    have := List.all_eq_true.1 hk.2.2.1 x hx
    have := of_decide_eq_true this
    omega
  rw [if_neg h4] at hk ⊢
  by_cases h5 : k = 5
  · subst h5
    rw [if_pos rfl] at hk
    exact told_5 ht hB hk.2.2.2.1 hk.2.2.2.2
  rw [if_neg h5] at hk
  exact hk.elim
theorem ReadsA.cells {w : World} {B : Nat} {A : Option Addr} {rs : List ARow} (h : ReadsA w B A rs) {k : Nat} (hk : k < rs.length) :
    ∃ ad, A = some ad ∧ ad.block < B ∧ (w.cell? (ad.add (k * 12)) = some (.int .i64 rs[k].2.2.k) ∧ w.cell? ⟨(ad.add (k * 12)).block, (ad.add (k * 12)).off + 1, none⟩ = some (.string rs[k].2.2.nm) ∧ w.cell? ⟨(ad.add (k * 12)).block, (ad.add (k * 12)).off + 2, none⟩ = some (.bool rs[k].2.2.n0) ∧ w.cell? ⟨(ad.add (k * 12)).block, (ad.add (k * 12)).off + 3, none⟩ = some (.string rs[k].2.2.s0) ∧ w.cell? ⟨(ad.add (k * 12)).block, (ad.add (k * 12)).off + 4, none⟩ = some (.bool rs[k].2.2.n1) ∧ w.cell? ⟨(ad.add (k * 12)).block, (ad.add (k * 12)).off + 5, none⟩ = some (.string rs[k].2.2.s1) ∧ w.cell? ⟨(ad.add (k * 12)).block, (ad.add (k * 12)).off + 6, none⟩ = some (.bool rs[k].2.2.n2) ∧ w.cell? ⟨(ad.add (k * 12)).block, (ad.add (k * 12)).off + 7, none⟩ = some (.string rs[k].2.2.s2) ∧ w.cell? ⟨(ad.add (k * 12)).block, (ad.add (k * 12)).off + 8, none⟩ = some (.bool rs[k].2.2.n3) ∧ w.cell? ⟨(ad.add (k * 12)).block, (ad.add (k * 12)).off + 9, none⟩ = some (.string rs[k].2.2.s3) ∧ w.cell? ⟨(ad.add (k * 12)).block, (ad.add (k * 12)).off + 10, none⟩ = some (.slice rs[k].1 rs[k].2.2.wd.length rs[k].2.1) ∧ w.cell? ⟨(ad.add (k * 12)).block, (ad.add (k * 12)).off + 11, none⟩ = some (.int .i64 rs[k].2.2.ct)) ∧ ArgR w B rs[k] := by
  obtain ⟨ad, e, hb, hc, ha⟩ := h.at_ hk
  refine ⟨ad, e, hb, ⟨?_, ?_, ?_, ?_, ?_, ?_, ?_, ?_, ?_, ?_, ?_, ?_⟩, ha⟩
  · exact hc 0 _ (by decide) rfl
  · exact hc 1 _ (by decide) rfl
  · exact hc 2 _ (by decide) rfl
  · exact hc 3 _ (by decide) rfl
  · exact hc 4 _ (by decide) rfl
  · exact hc 5 _ (by decide) rfl
  · exact hc 6 _ (by decide) rfl
  · exact hc 7 _ (by decide) rfl
  · exact hc 8 _ (by decide) rfl
  · exact hc 9 _ (by decide) rfl
  · exact hc 10 _ (by decide) rfl
  · exact hc 11 _ (by decide) rfl
/-- a statement: verb, name, where its arguments lie, their room, the arguments -/
structure StR where
  v : ByteArray
  nm : ByteArray
  A : Option Addr
  c : Nat
  rs : List ARow
def StR.cells (s : StR) : Array Value := #[.string s.v, .string s.nm, .slice s.A s.rs.length s.c]
/-- what a statement says -/
structure StP where
  v : ByteArray
  nm : ByteArray
  xs : List ArgP
def StR.p (s : StR) : StP := ⟨s.v, s.nm, s.rs.map (fun r => r.2.2)⟩
/-- of no great size -/
structure ArgP.fit (x : ArgP) : Prop where
  nm : x.nm.size ≤ 1000000
  wd : x.wd.length ≤ 1000000
structure StP.fit (s : StP) : Prop where
  v : s.v.size ≤ 1000000
  nm : s.nm.size ≤ 1000000
  len : s.xs.length ≤ 1000000
  all : ∀ x ∈ s.xs, x.fit
/-- may a statement be? -/
structure StP.ok (s : StP) : Prop where
  v : Sc.lettersB s.v.data.toList = true
  nm : s.nm = ⟨#[]⟩ ∨ Sc.namedB s.nm.data.toList = true
  len : s.xs.length ≤ 64
  all : ∀ x ∈ s.xs, x.ok
end Go.Proofs.YtebpggfccljagaaGreatDoor

/- script.Check, ref30.Check (printed by gen_chks.py). -/
namespace Go.Proofs.YtebpggfccljagaaGreatDoor
open Go.RowKit
open Wh
set_option linter.unusedSimpArgs false
set_option linter.unusedVariables false

theorem ex_b (p : Prop) : ∃ b : Bool, b = true ↔ p := by
  by_cases h : p
  · exact ⟨true, fun _ => h, fun _ => rfl⟩
  · exact ⟨false, fun h => (by cases h), fun h' => absurd h' h⟩
theorem all_to {l : List ARow} {i : Nat} {b : Bool} (h : i < l.length) (h0 : ∀ r ∈ l.take i, r.2.2.ok) (hb : b = true ↔ l[i].2.2.ok) : b = true ↔ ∀ r ∈ l.take (i + 1), r.2.2.ok := by
  rw [List.take_succ_eq_append_getElem h, hb]
  constructor
  · intro h1 r hr
    rcases List.mem_append.1 hr with h2 | h2
    · exact h0 r h2
    · rw [List.mem_singleton.1 h2]; exact h1
  · intro h1
    exact h1 _ (List.mem_append.2 (.inr (by simp)))
theorem arg_fit {s : StR} (h : s.p.fit) {r : ARow} (hr : r ∈ s.rs) : r.2.2.fit := h.all _ (List.mem_map.2 ⟨r, hr, rfl⟩)
theorem st_ok {s : StR} : s.p.ok ↔ (Sc.lettersB s.v.data.toList = true ∧ (s.nm = ⟨#[]⟩ ∨ Sc.namedB s.nm.data.toList = true) ∧ s.rs.length ≤ 64 ∧ ∀ r ∈ s.rs, r.2.2.ok) := by
  constructor
  · intro h
    refine ⟨h.v, h.nm, ?_, fun r hr => h.all _ (List.mem_map.2 ⟨r, hr, rfl⟩)⟩
    have := h.len
    unfold StR.p at this
    simpa using this
  · rintro ⟨h1, h2, h3, h4⟩
    refine ⟨h1, h2, by unfold StR.p; simpa using h3, fun x hx => ?_⟩
    obtain ⟨r, hr, rfl⟩ := List.mem_map.1 hx
    exact h4 r hr
set_option maxRecDepth 100000 in
set_option maxHeartbeats 2000000 in
theorem schk_1 {w : World} {v nm : ByteArray} {A : Option Addr} {n c : Nat} (hv : v.size ≤ 9223372036854775807) (hl : Sc.lettersB v.data.toList = false) :
    Calls Tryz.prog 16 #[.agg #[.string v, .string nm, .slice A n c]] w (fun e w' => e = .returned (.int .i64 2) ∧ Below w.heap.size w w') := by
  have HL : Hid (∀ W, Calls Tryz.prog 45 #[.string v] W (fun e w' => e = .returned (.bool false) ∧ W = w')) := Lib.hid fun W => (letters_any v W hv).mono fun e w' h => ⟨by rw [h.1, hl], h.2⟩
  clear hv hl
  have hbx := (Box.new w 25 #[.string v, .string nm, .slice A n c]).2
  go_enter Tryz.func16, Tryz.ntmps16
  go_wp2_with (go_at_call 45; (with_reducible refine (HL.out _).mono ?_); rintro _ _ ⟨rfl, rfl⟩)
  go_loopg [3, 4] 0 (fun k vv iv wr => vv = .bool false ∧ iv = .int .i64 0 ∧ Hid (Below w.heap.size w wr))
  case atStart => exact ⟨(by first | rfl | (simp; omega)), rfl, Lib.hid hbx⟩
  case round =>
    obtain ⟨rfl, rfl, hO⟩ := hrel
    go_wp2_with fail
    go_ret
    exact ⟨rfl, hO.out⟩
set_option maxRecDepth 100000 in
set_option maxHeartbeats 2000000 in
theorem schk_2 {w : World} {v nm : ByteArray} {A : Option Addr} {n c : Nat} (hv : v.size ≤ 9223372036854775807) (hnz : nm.size ≤ 9223372036854775807) (hl : Sc.lettersB v.data.toList = true) (he : nm.toList.isEmpty = false) (hnm : Sc.namedB nm.data.toList = false) :
    Calls Tryz.prog 16 #[.agg #[.string v, .string nm, .slice A n c]] w (fun e w' => e = .returned (.int .i64 2) ∧ Below w.heap.size w w') := by
  have HL : Hid (∀ W, Calls Tryz.prog 45 #[.string v] W (fun e w' => e = .returned (.bool true) ∧ W = w')) := Lib.hid fun W => (letters_any v W hv).mono fun e w' h => ⟨by rw [h.1, hl], h.2⟩
  have HN : Hid (∀ W, Calls Tryz.prog 46 #[.string nm] W (fun e w' => e = .returned (.bool false) ∧ W = w')) := Lib.hid fun W => (named_any nm W hnz).mono fun e w' h => ⟨by rw [h.1, hnm], h.2⟩
  clear hv hl hnm hnz
  have hbx := (Box.new w 25 #[.string v, .string nm, .slice A n c]).2
  go_enter Tryz.func16, Tryz.ntmps16
  go_wp2_with (first | (go_at_call 45; (with_reducible refine (HL.out _).mono ?_); rintro _ _ ⟨rfl, rfl⟩) | (go_at_call 46; (with_reducible refine (HN.out _).mono ?_); rintro _ _ ⟨rfl, rfl⟩))
  go_loopg [3, 4] 0 (fun k vv iv wr => vv = .bool false ∧ iv = .int .i64 0 ∧ Hid (Below w.heap.size w wr))
  case atStart => exact ⟨(by first | rfl | (simp; omega)), rfl, Lib.hid hbx⟩
  case round =>
    obtain ⟨rfl, rfl, hO⟩ := hrel
    go_wp2_with fail
    go_ret
    exact ⟨rfl, hO.out⟩
set_option maxRecDepth 100000 in
set_option maxHeartbeats 2000000 in
theorem schk_3 {w : World} {v nm : ByteArray} {A : Option Addr} {n c : Nat} (hv : v.size ≤ 9223372036854775807) (hnz : nm.size ≤ 9223372036854775807) (hl : Sc.lettersB v.data.toList = true) (he : nm.toList.isEmpty = true) (hn64 : ¬ (n : Int) ≤ 64) :
    Calls Tryz.prog 16 #[.agg #[.string v, .string nm, .slice A n c]] w (fun e w' => e = .returned (.int .i64 2) ∧ Below w.heap.size w w') := by
  have HL : Hid (∀ W, Calls Tryz.prog 45 #[.string v] W (fun e w' => e = .returned (.bool true) ∧ W = w')) := Lib.hid fun W => (letters_any v W hv).mono fun e w' h => ⟨by rw [h.1, hl], h.2⟩
  clear hv hl hnz
  have hbx := (Box.new w 25 #[.string v, .string nm, .slice A n c]).2
  go_enter Tryz.func16, Tryz.ntmps16
  go_wp2_with (go_at_call 45; (with_reducible refine (HL.out _).mono ?_); rintro _ _ ⟨rfl, rfl⟩)
  go_loopg [3, 4] 0 (fun k vv iv wr => vv = .bool false ∧ iv = .int .i64 0 ∧ Hid (Below w.heap.size w wr))
  case atStart => exact ⟨(by first | rfl | (simp; omega)), rfl, Lib.hid hbx⟩
  case round =>
    obtain ⟨rfl, rfl, hO⟩ := hrel
    go_wp2_with fail
    go_ret
    exact ⟨rfl, hO.out⟩
set_option maxRecDepth 100000 in
set_option maxHeartbeats 2000000 in
theorem schk_4 {w : World} {v nm : ByteArray} {A : Option Addr} {n c : Nat} (hv : v.size ≤ 9223372036854775807) (hnz : nm.size ≤ 9223372036854775807) (hl : Sc.lettersB v.data.toList = true) (he : nm.toList.isEmpty = false) (hnm : Sc.namedB nm.data.toList = true) (hn64 : ¬ (n : Int) ≤ 64) :
    Calls Tryz.prog 16 #[.agg #[.string v, .string nm, .slice A n c]] w (fun e w' => e = .returned (.int .i64 2) ∧ Below w.heap.size w w') := by
  have HL : Hid (∀ W, Calls Tryz.prog 45 #[.string v] W (fun e w' => e = .returned (.bool true) ∧ W = w')) := Lib.hid fun W => (letters_any v W hv).mono fun e w' h => ⟨by rw [h.1, hl], h.2⟩
  have HN : Hid (∀ W, Calls Tryz.prog 46 #[.string nm] W (fun e w' => e = .returned (.bool true) ∧ W = w')) := Lib.hid fun W => (named_any nm W hnz).mono fun e w' h => ⟨by rw [h.1, hnm], h.2⟩
  clear hv hl hnm hnz
  have hbx := (Box.new w 25 #[.string v, .string nm, .slice A n c]).2
  go_enter Tryz.func16, Tryz.ntmps16
  go_wp2_with (first | (go_at_call 45; (with_reducible refine (HL.out _).mono ?_); rintro _ _ ⟨rfl, rfl⟩) | (go_at_call 46; (with_reducible refine (HN.out _).mono ?_); rintro _ _ ⟨rfl, rfl⟩))
  go_loopg [3, 4] 0 (fun k vv iv wr => vv = .bool false ∧ iv = .int .i64 0 ∧ Hid (Below w.heap.size w wr))
  case atStart => exact ⟨(by first | rfl | (simp; omega)), rfl, Lib.hid hbx⟩
  case round =>
    obtain ⟨rfl, rfl, hO⟩ := hrel
    go_wp2_with fail
    go_ret
    exact ⟨rfl, hO.out⟩
set_option maxRecDepth 100000 in
set_option maxHeartbeats 4000000 in
theorem schk_e {w : World} {v nm : ByteArray} {A : Option Addr} {n c : Nat} {B : Nat} {rs : List ARow} (hv : v.size ≤ 9223372036854775807) (hnz : nm.size ≤ 9223372036854775807) (hl : Sc.lettersB v.data.toList = true) (he : nm.toList.isEmpty = true) (hn64 : (n : Int) ≤ 64) (hr : ReadsA w B A rs) (hB : B ≤ w.heap.size) (hn : n = rs.length) (hf : ∀ r ∈ rs, r.2.2.fit) {b : Bool} (hb : b = true ↔ ∀ r ∈ rs, r.2.2.ok) {z : Int} (hz : z = if b then 0 else 2) :
    Calls Tryz.prog 16 #[.agg #[.string v, .string nm, .slice A n c]] w (fun e w' => e = .returned (.int .i64 z) ∧ Below w.heap.size w w') := by
  have HL : Hid (∀ W, Calls Tryz.prog 45 #[.string v] W (fun e w' => e = .returned (.bool true) ∧ W = w')) := Lib.hid fun W => (letters_any v W hv).mono fun e w' h => ⟨by rw [h.1, hl], h.2⟩
  clear hv hl hnz
  have Hr := Lib.hid (hr.more hB)
  have Hn := Lib.hid hn
  have Hf := Lib.hid hf
  have Hb := Lib.hid hb
  have Hz := Lib.hid hz
  clear hr hB hn hf hb hz
  have hbx := Box.new w 25 #[.string v, .string nm, .slice A n c]
  have Hbx := Lib.hid hbx
  clear hbx
  go_enter Tryz.func16, Tryz.ntmps16
  go_wp2_with (go_at_call 45; (with_reducible refine (HL.out _).mono ?_); rintro _ _ ⟨rfl, rfl⟩)
  go_loopg [3, 4] n (fun k vv iv wr => ∃ (i : Nat) (t : Bool), vv = .bool t ∧ iv = .int .i64 (i : Int) ∧ k = n - i ∧ i ≤ n ∧ Hid (t = true ↔ ∀ r ∈ rs.take i, r.2.2.ok) ∧ Hid (Box w wr 25 #[.string v, .string nm, .slice A n c]))
  case atStart => exact ⟨0, true, rfl, rfl, by omega, by omega, Lib.hid (by simp), Hbx⟩
  case round =>
    obtain ⟨i, t, rfl, rfl, hk, hi, ht, hO⟩ := hrel
    have Hk := Lib.hid hk
    clear hk
    have b2 := hO.out.1.cell 2
    by_cases hin : i < n
    · have hil : i < rs.length := by rw [← Hn.out]; exact hin
      have hii : (i : Int) < (n : Int) := by omega
      cases t
      · have Hbad := Lib.hid (show b = false from no_b Hb.out fun h => by
          have := ht.out.2 fun r hr => h r (List.mem_of_mem_take hr)
          cases this)
        go_wp2_with fail
        go_ret
        exact ⟨by rw [Hz.out, Hbad.out]; rfl, hO.out.2⟩
      · obtain ⟨ad, rfl, hb1, ⟨c0, c1, c2, c3, c4, c5, c6, c7, c8, c9, c10, c11⟩, ha⟩ := (Hr.out.below hO.out.2).cells hil
        obtain ⟨u, hu⟩ := ex_b (rs[i].2.2.ok)
        have HM := Lib.hid (may_any (w := wr) (ha.more hO.out.2.size) (Nat.le_refl _) (Nat.le_trans (Hf.out _ (List.getElem_mem hil)).wd (by decide)) (Nat.le_trans (Hf.out _ (List.getElem_mem hil)).nm (by decide)) hu)
        have Hst := Lib.hid (fun h0 => all_to hil h0 hu)
        clear ha hu hb1
        generalize rs[i] = r at *
        clear hil
        obtain ⟨A1, c1', x⟩ := r
        simp only [argV] at HM
        simp only at c0 c1 c2 c3 c4 c5 c6 c7 c8 c9 c10 c11
        go_wp2_with (go_at_call 47; (with_reducible refine HM.out.mono ?_); rintro _ W3 ⟨rfl, hb3⟩; have Hb3 := Lib.hid hb3; clear hb3)
        go_roundg (n - (i + 1))
        case measure => have := Hk.out; omega
        case rel => exact ⟨i + 1, u, rfl, rfl, rfl, by omega, Lib.hid (Hst.out (ht.out.1 (by trivial))), Lib.hid (hO.out.next Hb3.out)⟩
    · have hii : ¬ (i : Int) < (n : Int) := by omega
      have h2 := ht.out
      rw [List.take_of_length_le (by have := Hn.out; omega)] at h2
      have Hbt := Lib.hid (show b = t by rw [Bool.eq_iff_iff, Hb.out, h2])
      clear h2
      cases t
      · go_wp2_with fail
        go_ret
        exact ⟨by rw [Hz.out, Hbt.out]; rfl, hO.out.2⟩
      · go_wp2_with fail
        go_ret
        exact ⟨by rw [Hz.out, Hbt.out]; rfl, hO.out.2⟩
set_option maxRecDepth 100000 in
set_option maxHeartbeats 4000000 in
theorem schk_n {w : World} {v nm : ByteArray} {A : Option Addr} {n c : Nat} {B : Nat} {rs : List ARow} (hv : v.size ≤ 9223372036854775807) (hnz : nm.size ≤ 9223372036854775807) (hl : Sc.lettersB v.data.toList = true) (he : nm.toList.isEmpty = false) (hnm : Sc.namedB nm.data.toList = true) (hn64 : (n : Int) ≤ 64) (hr : ReadsA w B A rs) (hB : B ≤ w.heap.size) (hn : n = rs.length) (hf : ∀ r ∈ rs, r.2.2.fit) {b : Bool} (hb : b = true ↔ ∀ r ∈ rs, r.2.2.ok) {z : Int} (hz : z = if b then 0 else 2) :
    Calls Tryz.prog 16 #[.agg #[.string v, .string nm, .slice A n c]] w (fun e w' => e = .returned (.int .i64 z) ∧ Below w.heap.size w w') := by
  have HL : Hid (∀ W, Calls Tryz.prog 45 #[.string v] W (fun e w' => e = .returned (.bool true) ∧ W = w')) := Lib.hid fun W => (letters_any v W hv).mono fun e w' h => ⟨by rw [h.1, hl], h.2⟩
  have HN : Hid (∀ W, Calls Tryz.prog 46 #[.string nm] W (fun e w' => e = .returned (.bool true) ∧ W = w')) := Lib.hid fun W => (named_any nm W hnz).mono fun e w' h => ⟨by rw [h.1, hnm], h.2⟩
  clear hv hl hnm hnz
  have Hr := Lib.hid (hr.more hB)
  have Hn := Lib.hid hn
  have Hf := Lib.hid hf
  have Hb := Lib.hid hb
  have Hz := Lib.hid hz
  clear hr hB hn hf hb hz
  have hbx := Box.new w 25 #[.string v, .string nm, .slice A n c]
  have Hbx := Lib.hid hbx
  clear hbx
  go_enter Tryz.func16, Tryz.ntmps16
  go_wp2_with (first | (go_at_call 45; (with_reducible refine (HL.out _).mono ?_); rintro _ _ ⟨rfl, rfl⟩) | (go_at_call 46; (with_reducible refine (HN.out _).mono ?_); rintro _ _ ⟨rfl, rfl⟩))
  go_loopg [3, 4] n (fun k vv iv wr => ∃ (i : Nat) (t : Bool), vv = .bool t ∧ iv = .int .i64 (i : Int) ∧ k = n - i ∧ i ≤ n ∧ Hid (t = true ↔ ∀ r ∈ rs.take i, r.2.2.ok) ∧ Hid (Box w wr 25 #[.string v, .string nm, .slice A n c]))
  case atStart => exact ⟨0, true, rfl, rfl, by omega, by omega, Lib.hid (by simp), Hbx⟩
  case round =>
    obtain ⟨i, t, rfl, rfl, hk, hi, ht, hO⟩ := hrel
    have Hk := Lib.hid hk
    clear hk
    have b2 := hO.out.1.cell 2
    by_cases hin : i < n
    · have hil : i < rs.length := by rw [← Hn.out]; exact hin
      have hii : (i : Int) < (n : Int) := by omega
      cases t
      · have Hbad := Lib.hid (show b = false from no_b Hb.out fun h => by
          have := ht.out.2 fun r hr => h r (List.mem_of_mem_take hr)
          cases this)
        go_wp2_with fail
        go_ret
        exact ⟨by rw [Hz.out, Hbad.out]; rfl, hO.out.2⟩
      · obtain ⟨ad, rfl, hb1, ⟨c0, c1, c2, c3, c4, c5, c6, c7, c8, c9, c10, c11⟩, ha⟩ := (Hr.out.below hO.out.2).cells hil
        obtain ⟨u, hu⟩ := ex_b (rs[i].2.2.ok)
        have HM := Lib.hid (may_any (w := wr) (ha.more hO.out.2.size) (Nat.le_refl _) (Nat.le_trans (Hf.out _ (List.getElem_mem hil)).wd (by decide)) (Nat.le_trans (Hf.out _ (List.getElem_mem hil)).nm (by decide)) hu)
        have Hst := Lib.hid (fun h0 => all_to hil h0 hu)
        clear ha hu hb1
        generalize rs[i] = r at *
        clear hil
        obtain ⟨A1, c1', x⟩ := r
        simp only [argV] at HM
        simp only at c0 c1 c2 c3 c4 c5 c6 c7 c8 c9 c10 c11
        go_wp2_with (go_at_call 47; (with_reducible refine HM.out.mono ?_); rintro _ W3 ⟨rfl, hb3⟩; have Hb3 := Lib.hid hb3; clear hb3)
        go_roundg (n - (i + 1))
        case measure => have := Hk.out; omega
        case rel => exact ⟨i + 1, u, rfl, rfl, rfl, by omega, Lib.hid (Hst.out (ht.out.1 (by trivial))), Lib.hid (hO.out.next Hb3.out)⟩
    · have hii : ¬ (i : Int) < (n : Int) := by omega
      have h2 := ht.out
      rw [List.take_of_length_le (by have := Hn.out; omega)] at h2
      have Hbt := Lib.hid (show b = t by rw [Bool.eq_iff_iff, Hb.out, h2])
      clear h2
      cases t
      · go_wp2_with fail
        go_ret
        exact ⟨by rw [Hz.out, Hbt.out]; rfl, hO.out.2⟩
      · go_wp2_with fail
        go_ret
        exact ⟨by rw [Hz.out, Hbt.out]; rfl, hO.out.2⟩
theorem scheck_any {w : World} {B : Nat} {s : StR} (hr : ReadsA w B s.A s.rs) (hB : B ≤ w.heap.size) (hf : s.p.fit) {b : Bool} (hb : b = true ↔ s.p.ok) :
    Calls Tryz.prog 16 #[.agg s.cells] w (fun e w' => e = .returned (.int .i64 (if b then 0 else 2)) ∧ Below w.heap.size w w') := by
  rw [st_ok] at hb
  unfold StR.cells
  have hv := Nat.le_trans hf.v (by decide : 1000000 ≤ 9223372036854775807)
  have hnz := Nat.le_trans hf.nm (by decide : 1000000 ≤ 9223372036854775807)
  cases hl : Sc.lettersB s.v.data.toList
  · rw [no_b hb fun h => by rw [hl] at h; exact absurd h.1 (by decide)]
    exact schk_1 hv hl
  by_cases h64 : (s.rs.length : Int) ≤ 64
  · by_cases he : s.nm = ⟨#[]⟩
    · refine schk_e hv hnz hl (emp_yes he) h64 hr hB rfl (fun r h => arg_fit hf h) (hb.trans ?_) rfl
      exact ⟨fun h => h.2.2.2, fun h => ⟨hl, .inl he, by omega, h⟩⟩
    · cases hn : Sc.namedB s.nm.data.toList
      · rw [no_b hb fun h => h.2.1.elim (fun h => he h) (fun h => by rw [hn] at h; cases h)]
        exact schk_2 hv hnz hl (emp_no he) hn
      · refine schk_n hv hnz hl (emp_no he) hn h64 hr hB rfl (fun r h => arg_fit hf h) (hb.trans ?_) rfl
        exact ⟨fun h => h.2.2.2, fun h => ⟨hl, .inr hn, by omega, h⟩⟩
  · rw [no_b hb fun h => h64 (by have := h.2.2.1; omega)]
    by_cases he : s.nm = ⟨#[]⟩
    · exact schk_3 hv hnz hl (emp_yes he) h64
    · cases hn : Sc.namedB s.nm.data.toList
      · exact schk_2 hv hnz hl (emp_no he) hn
      · exact schk_4 hv hnz hl (emp_no he) hn h64
end Go.Proofs.YtebpggfccljagaaGreatDoor

/- script.Line, ref30.Line. -/
namespace Go.Proofs.YtebpggfccljagaaGreatDoor
open Go.RowKit
open Wh
set_option linter.unusedSimpArgs false
set_option linter.unusedVariables false

theorem join_anyZ {w : World} {B n c : Nat} {A : Option Addr} {l : List (List UInt8)} (h : OwnS w B (.slice A n c) l) (h1 : 1 ≤ l.length) (h2 : l.length ≤ 100000) (hs : (Lib.join l [32]).length ≤ 140737488355328) :
    Calls Tryz.prog 43 #[.slice A n c, .string ⟨#[32]⟩] w (fun e w' => e = .returned (bs (Lib.join l [32])) ∧ Below w.heap.size w w') := by
  obtain ⟨A', c', e, hc, hm⟩ := h.form
  injection e with e1 e2 e3
  subst e1 e2 e3
  have h' : w.ownsRow B 9 1 (.slice A l.length c) l.length (l.map bs) := h
  obtain ⟨g, cap, hv, hg1, hg2⟩ := h'.form (by omega)
  injection hv with e1 _ e3
  subst e1 e3
  have hx : ((l.map (fun b => (⟨b.toArray⟩ : ByteArray))).map (·.data.toList)) = l := by
    rw [List.map_map]
    have : ((fun b : ByteArray => b.data.toList) ∘ fun b : List UInt8 => (⟨b.toArray⟩ : ByteArray)) = id := by funext b; rfl
    rw [this, List.map_id]
  have hj := Tryz.strings_Join g 0 c (l.map (fun b => (⟨b.toArray⟩ : ByteArray))) ⟨#[32]⟩ w (fun j x hj => by
    rw [Nat.zero_add]
    have hc := h'.cells (g := g) rfl j (bs x.data.toList) (by
      rw [List.getElem?_map] at hj ⊢
      cases hlj : l[j]? with
      | none => rw [hlj] at hj; cases hj
      | some b => rw [hlj] at hj; injection hj with hj; subst hj; rfl)
    have e : (⟨g, 0, none⟩ : Addr).add j = ⟨g, j, none⟩ := by rw [Addr.add_lit, Nat.zero_add]
    rw [e] at hc
    exact hc) hg2 (by rw [List.length_map]; omega) (by rw [List.length_map]; exact hc) (by rw [hx]; exact hs)
  rw [hx, List.length_map] at hj
  exact hj
theorem join_allZ {w : World} {B n c : Nat} {A : Option Addr} {l : List (List UInt8)} (h : OwnS w B (.slice A n c) l) (h2 : l.length ≤ 100000) (hs : (Lib.join l [32]).length ≤ 140737488355328) :
    Calls Tryz.prog 43 #[.slice A n c, .string ⟨#[32]⟩] w (fun e w' => e = .returned (bs (Lib.join l [32])) ∧ Below w.heap.size w w') := by
  rcases Nat.eq_zero_or_pos l.length with h0 | h0
  · obtain ⟨A', c', e, _⟩ := h.form
    injection e with e1 e2 e3
    rw [e2, h0, List.eq_nil_of_length_eq_zero h0]
    refine (Tryz.strings_Join_none A c ⟨#[32]⟩ w).mono ?_
    rintro e w' ⟨h1, h2⟩
    exact ⟨h1, by rw [h2]; exact Below.refl _ _⟩
  · exact join_anyZ h h0 h2 hs
theorem lens_le {m : Nat} : ∀ {l : List (List UInt8)}, (∀ t ∈ l, t.length ≤ m) → Lib.lens l ≤ m * l.length
  | [], _ => by simp [Lib.lens]
  | x :: r, h => by
    have h1 := lens_le (l := r) fun t ht => h t (by simp [ht])
    have h2 := h x (by simp)
    have e : Lib.lens (x :: r) = x.length + Lib.lens r := by simp [Lib.lens]
    rw [e, List.length_cons, Nat.mul_succ]
    omega
theorem join_le {m : Nat} {l : List (List UInt8)} (h : ∀ t ∈ l, t.length ≤ m) : (Lib.join l [32]).length ≤ (m + 1) * l.length := by
  cases l with
  | nil => simp [Lib.join]
  | cons x r =>
    have h1 := lens_le h
    rw [Lib.join_length]
    simp only [List.length_cons, List.length_nil] at h1 ⊢
    have e : (m + 1) * (r.length + 1) = m * (r.length + 1) + (r.length + 1) := by rw [Nat.add_mul, Nat.one_mul]
    rw [e]
    generalize m * (r.length + 1) = q at h1 ⊢
    omega
theorem argT_len {x : ArgP} (h : x.ok) : (argT x).length ≤ 2300000 := by
  unfold ArgP.ok at h
  unfold argT
  by_cases h1 : x.k = 1
  · rw [if_pos h1] at h ⊢
    have := h.1
    unfold Sc.namedB at this
    simp only [Bool.and_eq_true, decide_eq_true_eq] at this
    omega
  rw [if_neg h1] at h ⊢
  by_cases h2 : x.k = 2
  · rw [if_pos h2] at h ⊢
    have a1 := txtF_len h.2.1.re
    have a2 := txtF_len h.2.1.im
    simp only [List.length_cons, List.length_append, List.length_nil]
    omega
  rw [if_neg h2] at h ⊢
  by_cases h3 : x.k = 3
  · rw [if_pos h3]; decide
  rw [if_neg h3] at h ⊢
  by_cases h4 : x.k = 4
  · rw [if_pos h4] at h ⊢
    have h5 := wtxTo_small x.wd (fun k hk => by have := of_decide_eq_true (List.all_eq_true.1 h.2.2.1 k hk); omega) (by have := h.2.2.2.1; omega) x.wd.length
    unfold wtxTo at h5
    rw [List.take_of_length_le (Nat.le_refl _)] at h5
    unfold wtx
    simp only [List.length_cons, List.length_append, List.length_nil]
    omega
  rw [if_neg h4] at h ⊢
  by_cases h5 : x.k = 5
  · rw [if_pos h5] at h
    have := Lib.itoa_length_le x.ct (by have := h.2.2.2.1; omega) (by have := h.2.2.2.2; omega)
    rw [List.length_cons]
    omega
  · rw [if_neg h5] at h
    exact h.elim
/-- the line's head -/
def headT (v nm : ByteArray) : List (List UInt8) := v.data.toList :: (if nm = ⟨#[]⟩ then [] else [61 :: nm.data.toList])
/-- a statement's line -/
def lineT (p : StP) : List UInt8 := Lib.join (headT p.v p.nm ++ p.xs.map argT) [32]
theorem head_ne (v nm : ByteArray) (l : List (List UInt8)) : headT v nm ++ l ≠ [] := by unfold headT; simp
theorem head_len {v nm : ByteArray} (hv : Sc.lettersB v.data.toList = true) (hn : nm = ⟨#[]⟩ ∨ Sc.namedB nm.data.toList = true) : ∀ t ∈ headT v nm, t.length ≤ 2300000 := by
  have h1 : v.data.toList.length ≤ 16 := by
    unfold Sc.lettersB at hv
    simp only [Bool.and_eq_true, decide_eq_true_eq] at hv
    omega
  intro t ht
  unfold headT at ht
  rcases List.mem_cons.1 ht with rfl | h2
  · omega
  · by_cases e : nm = ⟨#[]⟩
    · rw [if_pos e] at h2; simp at h2
    · rw [if_neg e] at h2
      rcases hn with h | h
      · exact absurd h e
      · unfold Sc.namedB at h
        simp only [Bool.and_eq_true, decide_eq_true_eq] at h
        rw [List.mem_singleton.1 h2, List.length_cons]
        omega
theorem head_two (v nm : ByteArray) : (headT v nm).length ≤ 2 := by
  unfold headT
  split <;> simp
theorem line_len {v nm : ByteArray} {l : List ArgP} (hv : Sc.lettersB v.data.toList = true) (hn : nm = ⟨#[]⟩ ∨ Sc.namedB nm.data.toList = true) (hl : l.length ≤ 64) (ha : ∀ x ∈ l, x.ok) : (Lib.join (headT v nm ++ l.map argT) [32]).length ≤ 200000000 := by
  have h1 := join_le (m := 2300000) (l := headT v nm ++ l.map argT) (fun t ht => by
    rcases List.mem_append.1 ht with h | h
    · exact head_len hv hn t h
    · obtain ⟨x, hx, rfl⟩ := List.mem_map.1 h
      exact argT_len (ha x hx))
  have h2 := head_two v nm
  rw [List.length_append, List.length_map] at h1
  have h3 : (2300000 + 1) * ((headT v nm).length + l.length) ≤ (2300000 + 1) * 66 := Nat.mul_le_mul_left _ (by omega)
  omega
theorem OwnS.lit (w : World) (B : Nat) (t : ByteArray) (hB : B ≤ w.heap.size) : OwnS (w.alloc (.cells #[.string t] 9)) B (.slice (some ⟨w.heap.size, 0, none⟩) 1 1) [t.data.toList] :=
  ⟨by simp, .inr ⟨_, 1, #[.string t], rfl, hB, heap_alloc_new w _, by simp, by unfold maxLen; omega, by simp, by simp [bs]⟩⟩
end Go.Proofs.YtebpggfccljagaaGreatDoor

/- script.Line. -/
namespace Go.Proofs.YtebpggfccljagaaGreatDoor
open Go.RowKit
open Wh
set_option linter.unusedSimpArgs false
set_option linter.unusedVariables false

set_option maxRecDepth 100000 in
set_option maxHeartbeats 2000000 in
theorem line_bad {w : World} {B : Nat} {s : StR} (hr : ReadsA w B s.A s.rs) (hB : B ≤ w.heap.size) (hf : s.p.fit) (hk : ¬ s.p.ok) :
    Calls Tryz.prog 14 #[.agg s.cells] w (fun e w' => e = .returned (.tuple #[.string ⟨#[]⟩, .int .i64 2]) ∧ Below w.heap.size w w') := by
  have hbx := Box.new w 25 s.cells
  have HC := Lib.hid (scheck_any (hr.alloc hB (.cells s.cells 25)) (Nat.le_trans hB hbx.2.size) hf (b := false) ⟨fun h => (by cases h), fun h => absurd h hk⟩)
  unfold StR.cells at hbx HC ⊢
  have hb := hbx.2
  clear hr hf hk hbx
  go_enter Tryz.func14, Tryz.ntmps14
  go_wp2_with (go_at_call 16; (with_reducible refine HC.out.mono ?_); rintro _ _ ⟨rfl, hb1⟩)
  go_ret2
  exact ⟨rfl, hb.trans (hb1.mono hb.size)⟩
theorem own_two (W : World) (B : Nat) (a b : ByteArray) (t : List UInt8) (hB : B ≤ W.heap.size) (hb : (.string b : Value) = bs t) : OwnS (((W.alloc (.cells #[.string a] 9)).alloc (.cells #[.string b] 9)).alloc (.cells (#[.string a, .string b] ++ Builtin.zeroCells #[.string ⟨#[]⟩] ((Question.appendCap 2 1 9).cut (W.tape W.drawn (Question.appendCap 2 1 9)) - 2)) 9)).drew B (.slice (some ⟨W.heap.size + 1 + 1, 0, none⟩) 2 ((Question.appendCap 2 1 9).cut (W.tape W.drawn (Question.appendCap 2 1 9)))) ([a.data.toList] ++ [t]) := by
  have h1 := grownCap_ge W 2 1 9
  have h2 := grownCap_le_maxLen W 2 1 9 (by unfold maxLen; omega)
  unfold grownCap at h1 h2
  generalize (Question.appendCap 2 1 9).cut (W.tape W.drawn (Question.appendCap 2 1 9)) = C at *
  rw [hb]
  refine ⟨by simp, .inr ⟨W.heap.size + 1 + 1, C, #[.string a, bs t] ++ Builtin.zeroCells #[.string ⟨#[]⟩] (C - 2), rfl, by omega, ?_, by simpa using h1, h2, ?_, ?_⟩⟩
  · have h := heap_alloc_new ((W.alloc (.cells #[.string a] 9)).alloc (.cells #[bs t] 9)) (.cells (#[.string a, bs t] ++ Builtin.zeroCells #[.string ⟨#[]⟩] (C - 2)) 9)
    have e : ((W.alloc (.cells #[.string a] 9)).alloc (.cells #[bs t] 9)).heap.size = W.heap.size + 1 + 1 := by simp
    rw [e] at h
    exact h
  · simp [size_zeroCells]; omega
  · simp [bs]
theorem own_two_below {w W : World} {o1 o2 o3 : Obj} (h : Below w.heap.size w W) : Below w.heap.size w (((W.alloc o1).alloc o2).alloc o3).drew := by
  have hs := h.size
  have h1 := ((h.alloc hs o1).alloc (by simp; omega) o2).alloc (by simp; omega) o3
  exact ⟨h1.os, h1.tape, h1.output, h1.size, h1.block⟩
set_option maxRecDepth 100000 in
set_option maxHeartbeats 4000000 in
theorem line_ok {w : World} {B : Nat} {s : StR} (ht : Tab B w) (hr : ReadsA w B s.A s.rs) (hB : B ≤ w.heap.size) (hf : s.p.fit) (hk : s.p.ok) :
    Calls Tryz.prog 14 #[.agg s.cells] w (fun e w' => e = .returned (.tuple #[bs (lineT s.p), .int .i64 0]) ∧ Below w.heap.size w w') := by
  have hbx := Box.new w 25 s.cells
  have HC := Lib.hid (scheck_any (hr.alloc hB (.cells s.cells 25)) (Nat.le_trans hB hbx.2.size) hf (b := true) ⟨fun _ => hk, fun _ => rfl⟩)
  have Hk := Lib.hid (st_ok.1 hk)
  have Hr := Lib.hid (hr.more hB)
  have Ht := Lib.hid (ht.more hB)
  have HTold := Lib.hid (fun W (hb : Below w.heap.size w W) (r : ARow) (hm : r ∈ s.rs) => atold_any (Ht.out.below hb (Nat.le_refl _)) ((Hr.out.2 r hm).below hb) hb.size (Hk.out.2.2.2 r hm))
  obtain ⟨v, nm, A, c, rs⟩ := s
  have Hres := Lib.hid (show lineT (StR.p ⟨v, nm, A, c, rs⟩) = Lib.join (headT v nm ++ (rs.map (fun r => r.2.2)).map argT) [32] from rfl)
  have Hln := Lib.hid (line_len (v := v) (nm := nm) (l := rs.map (fun r => r.2.2)) Hk.out.1 Hk.out.2.1 (by rw [List.length_map]; exact Hk.out.2.2.1) (fun x hx => by obtain ⟨r, hr, rfl⟩ := List.mem_map.1 hx; exact Hk.out.2.2.2 r hr))
  simp only [StR.cells] at hbx HC Hk Hr HTold ⊢
  generalize lineT (StR.p ⟨v, nm, A, c, rs⟩) = T at *
  obtain ⟨n, hn⟩ : ∃ n, n = rs.length := ⟨_, rfl⟩
  have Hn := Lib.hid hn
  rw [← hn] at hbx HC ⊢
  clear hr hf hk hn ht hB
  by_cases he : nm = ⟨#[]⟩
  · have hem := emp_yes he
    have Hhead := Lib.hid (show headT v nm = [v.data.toList] by unfold headT; rw [if_pos he])
    clear he
    go_enter Tryz.func14, Tryz.ntmps14
    go_wp2_with (go_at_call 16; (with_reducible refine HC.out.mono ?_); rintro _ W1 ⟨rfl, hb1⟩; have hbx := hbx.next hb1; have hlt := hbx.1.lt; have c0 := hbx.1.cell 0; have c1 := hbx.1.cell 1; have c2 := hbx.1.cell 2; clear hb1)
    go_loopg [5, 28] n (fun k lv iv wr => ∃ (i : Nat) (A' : Option Addr) (n' c' : Nat), lv = .slice A' n' c' ∧ iv = .int .i64 (i : Int) ∧ k = n - i ∧ i ≤ n ∧ Hid (OwnS wr w.heap.size (.slice A' n' c') (headT v nm ++ (rs.take i).map (fun r => argT r.2.2)) ∧ Below w.heap.size w wr))
    case atStart => exact ⟨0, _, _, _, rfl, rfl, by omega, by omega, Lib.hid (by rw [List.take_zero, List.map_nil, List.append_nil, Hhead.out]; exact ⟨OwnS.lit _ _ _ hbx.2.size, hbx.2.alloc hbx.2.size _⟩)⟩
    case round =>
      obtain ⟨i, A1, n1, c1, rfl, rfl, hk, hi, hO⟩ := hrel
      have Hk2 := Lib.hid hk
      clear hk
      have hn66 : n ≤ 64 := by have := Hk.out.2.2.1; rw [Hn.out]; exact this
      by_cases hin : i < n
      · have hil : i < rs.length := by rw [← Hn.out]; exact hin
        obtain ⟨ad, rfl, hb1, ⟨d0, d1, d2, d3, d4, d5, d6, d7, d8, d9, d10, d11⟩, ha⟩ := (Hr.out.below hO.out.2).cells hil
        have HT := Lib.hid (fun W (hb : Below w.heap.size w W) => HTold.out W hb rs[i] (List.getElem_mem hil))
        have Hst := Lib.hid (show headT v nm ++ (rs.take (i + 1)).map (fun r => argT r.2.2) = (headT v nm ++ (rs.take i).map (fun r => argT r.2.2)) ++ [argT rs[i].2.2] by rw [List.take_succ_eq_append_getElem hil, List.map_append, List.append_assoc]; rfl)
        have hii : (i : Int) < (n : Int) := by omega
        have hlen : (headT v nm ++ (rs.take i).map (fun r => argT r.2.2)).length ≤ 100 := by
          rw [List.length_append, List.length_map, List.length_take]
          have := head_two v nm
          omega
        clear ha hb1
        generalize rs[i] = r at *
        clear hil
        obtain ⟨Ax, cx, x⟩ := r
        simp only [argV, bs] at HT
        simp only at d0 d1 d2 d3 d4 d5 d6 d7 d8 d9 d10 d11 Hst
        generalize argT x = q at *
        have Hbw := Lib.hid hO.out.2
        have Hba := Lib.hid (hO.out.2.alloc hO.out.2.size (.cells #[.int .i64 x.k, .string x.nm, .bool x.n0, .string x.s0, .bool x.n1, .string x.s1, .bool x.n2, .string x.s2, .bool x.n3, .string x.s3, .slice Ax x.wd.length cx, .int .i64 x.ct] 41))
        go_wp2_with fail
        refine (HT.out _ Hba.out).mono ?_
        rintro e w2 ⟨rfl, hb2⟩
        have Hb2 := Lib.hid hb2
        clear hb2
        have hsz := hO.out.2.size
        have hbs2 : w.heap.size ≤ w2.heap.size := Nat.le_trans Hba.out.size Hb2.out.size
        have hOwn := Lib.hid (((hO.out.1.alloc (.cells #[.int .i64 x.k, .string x.nm, .bool x.n0, .string x.s0, .bool x.n1, .string x.s1, .bool x.n2, .string x.s2, .bool x.n3, .string x.s3, .slice Ax x.wd.length cx, .int .i64 x.ct] 41)).kept Hb2.out).alloc (.cells #[bs q] 9))
        have hBel := Lib.hid ((Hba.out.trans (Hb2.out.mono Hba.out.size)).alloc hbs2 (.cells #[bs q] 9))
        have hlen2 : (headT v nm ++ (rs.take i).map (fun r => argT r.2.2)).length ≤ 1000000000 := Nat.le_trans hlen (by decide)
        have hbs3 : w.heap.size ≤ (w2.alloc (.cells #[bs q] 9)).heap.size := hBel.out.size
        go_wp2_with (refine wpS_append rfl (.tmp 32) (.tmp 35) rfl w.heap.size _ (headT v nm ++ (rs.take i).map (fun r => argT r.2.2)) [q] hOwn.out rfl rfl rfl (reads_singleS _ q) hlen2 (by simp) hbs3 ?_; intro A2 n2 c2 w3 ho2 hn2 hc2 hg2 hb3; have Ho2 := Lib.hid (And.intro ho2 (hb3 _ hBel.out)); clear ho2 hn2 hc2 hg2 hb3)
        go_roundg (n - (i + 1))
        case measure => have := Hk2.out; omega
        case rel => exact ⟨i + 1, A2, n2, c2, rfl, rfl, rfl, by omega, Lib.hid ⟨by rw [Hst.out]; exact Ho2.out.1, Ho2.out.2⟩⟩
      · have hii : (n : Int) ≤ (i : Int) := by omega
        have ho := hO.out.1
        rw [List.take_of_length_le (by have := Hn.out; omega)] at ho
        have e2 : (rs.map (fun r => r.2.2)).map argT = rs.map (fun r => argT r.2.2) := by rw [List.map_map]; rfl
        have HJ := Lib.hid (join_allZ (A := A1) (n := n1) (c := c1) ho (by rw [List.length_append, List.length_map]; have := head_two v nm; have := Hn.out; omega) (by have h := Hln.out; rw [e2] at h; omega))
        rw [← e2] at HJ
        rw [← Hres.out] at HJ
        clear ho e2
        go_wp2_with fail
        refine HJ.out.mono ?_
        rintro e w2 ⟨rfl, hb2⟩
        have Hb2 := Lib.hid hb2
        clear hb2
        go_wp2_with fail
        go_ret2
        exact ⟨rfl, hO.out.2.trans (Hb2.out.mono hO.out.2.size)⟩
  · have hem := emp_no he
    have Hhead := Lib.hid (show headT v nm = [v.data.toList] ++ [61 :: nm.data.toList] by unfold headT; rw [if_neg he]; rfl)
    have hnz : nm.size ≤ 100 := by
      rcases Hk.out.2.1 with h | h
      · exact absurd h he
      · unfold Sc.namedB at h
        simp only [Bool.and_eq_true, decide_eq_true_eq] at h
        have : nm.data.toList.length = nm.size := Array.length_toList
        omega
    have Hcat := Lib.hid (show (.string (⟨#[61]⟩ ++ nm) : Value) = bs (61 :: nm.data.toList) by unfold bs; congr 1)
    clear he
    go_enter Tryz.func14, Tryz.ntmps14
    go_wp2_with (go_at_call 16; (with_reducible refine HC.out.mono ?_); rintro _ W1 ⟨rfl, hb1⟩; have hbx := hbx.next hb1; have hlt := hbx.1.lt; have hlt1 : w.heap.size < W1.heap.size + 1 := Nat.lt_succ_of_lt hlt; have hlt2 : w.heap.size < W1.heap.size + 1 + 1 := Nat.lt_succ_of_lt hlt1; have c0 := hbx.1.cell 0; have c1 := hbx.1.cell 1; have c2 := hbx.1.cell 2; clear hb1)
    go_loopg [5, 28] n (fun k lv iv wr => ∃ (i : Nat) (A' : Option Addr) (n' c' : Nat), lv = .slice A' n' c' ∧ iv = .int .i64 (i : Int) ∧ k = n - i ∧ i ≤ n ∧ Hid (OwnS wr w.heap.size (.slice A' n' c') (headT v nm ++ (rs.take i).map (fun r => argT r.2.2)) ∧ Below w.heap.size w wr))
    case atStart => exact ⟨0, _, _, _, rfl, rfl, by omega, by omega, Lib.hid (by rw [List.take_zero, List.map_nil, List.append_nil, Hhead.out]; exact ⟨own_two _ _ _ _ _ hbx.2.size Hcat.out, own_two_below hbx.2⟩)⟩
    case round =>
      obtain ⟨i, A1, n1, c1, rfl, rfl, hk, hi, hO⟩ := hrel
      have Hk2 := Lib.hid hk
      clear hk
      have hn66 : n ≤ 64 := by have := Hk.out.2.2.1; rw [Hn.out]; exact this
      by_cases hin : i < n
      · have hil : i < rs.length := by rw [← Hn.out]; exact hin
        obtain ⟨ad, rfl, hb1, ⟨d0, d1, d2, d3, d4, d5, d6, d7, d8, d9, d10, d11⟩, ha⟩ := (Hr.out.below hO.out.2).cells hil
        have HT := Lib.hid (fun W (hb : Below w.heap.size w W) => HTold.out W hb rs[i] (List.getElem_mem hil))
        have Hst := Lib.hid (show headT v nm ++ (rs.take (i + 1)).map (fun r => argT r.2.2) = (headT v nm ++ (rs.take i).map (fun r => argT r.2.2)) ++ [argT rs[i].2.2] by rw [List.take_succ_eq_append_getElem hil, List.map_append, List.append_assoc]; rfl)
        have hii : (i : Int) < (n : Int) := by omega
        have hlen : (headT v nm ++ (rs.take i).map (fun r => argT r.2.2)).length ≤ 100 := by
          rw [List.length_append, List.length_map, List.length_take]
          have := head_two v nm
          omega
        clear ha hb1
        generalize rs[i] = r at *
        clear hil
        obtain ⟨Ax, cx, x⟩ := r
        simp only [argV, bs] at HT
        simp only at d0 d1 d2 d3 d4 d5 d6 d7 d8 d9 d10 d11 Hst
        generalize argT x = q at *
        have Hbw := Lib.hid hO.out.2
        have Hba := Lib.hid (hO.out.2.alloc hO.out.2.size (.cells #[.int .i64 x.k, .string x.nm, .bool x.n0, .string x.s0, .bool x.n1, .string x.s1, .bool x.n2, .string x.s2, .bool x.n3, .string x.s3, .slice Ax x.wd.length cx, .int .i64 x.ct] 41))
        go_wp2_with fail
        refine (HT.out _ Hba.out).mono ?_
        rintro e w2 ⟨rfl, hb2⟩
        have Hb2 := Lib.hid hb2
        clear hb2
        have hsz := hO.out.2.size
        have hbs2 : w.heap.size ≤ w2.heap.size := Nat.le_trans Hba.out.size Hb2.out.size
        have hOwn := Lib.hid (((hO.out.1.alloc (.cells #[.int .i64 x.k, .string x.nm, .bool x.n0, .string x.s0, .bool x.n1, .string x.s1, .bool x.n2, .string x.s2, .bool x.n3, .string x.s3, .slice Ax x.wd.length cx, .int .i64 x.ct] 41)).kept Hb2.out).alloc (.cells #[bs q] 9))
        have hBel := Lib.hid ((Hba.out.trans (Hb2.out.mono Hba.out.size)).alloc hbs2 (.cells #[bs q] 9))
        have hlen2 : (headT v nm ++ (rs.take i).map (fun r => argT r.2.2)).length ≤ 1000000000 := Nat.le_trans hlen (by decide)
        have hbs3 : w.heap.size ≤ (w2.alloc (.cells #[bs q] 9)).heap.size := hBel.out.size
        go_wp2_with (refine wpS_append rfl (.tmp 32) (.tmp 35) rfl w.heap.size _ (headT v nm ++ (rs.take i).map (fun r => argT r.2.2)) [q] hOwn.out rfl rfl rfl (reads_singleS _ q) hlen2 (by simp) hbs3 ?_; intro A2 n2 c2 w3 ho2 hn2 hc2 hg2 hb3; have Ho2 := Lib.hid (And.intro ho2 (hb3 _ hBel.out)); clear ho2 hn2 hc2 hg2 hb3)
        go_roundg (n - (i + 1))
        case measure => have := Hk2.out; omega
        case rel => exact ⟨i + 1, A2, n2, c2, rfl, rfl, rfl, by omega, Lib.hid ⟨by rw [Hst.out]; exact Ho2.out.1, Ho2.out.2⟩⟩
      · have hii : (n : Int) ≤ (i : Int) := by omega
        have ho := hO.out.1
        rw [List.take_of_length_le (by have := Hn.out; omega)] at ho
        have e2 : (rs.map (fun r => r.2.2)).map argT = rs.map (fun r => argT r.2.2) := by rw [List.map_map]; rfl
        have HJ := Lib.hid (join_allZ (A := A1) (n := n1) (c := c1) ho (by rw [List.length_append, List.length_map]; have := head_two v nm; have := Hn.out; omega) (by have h := Hln.out; rw [e2] at h; omega))
        rw [← e2] at HJ
        rw [← Hres.out] at HJ
        clear ho e2
        go_wp2_with fail
        refine HJ.out.mono ?_
        rintro e w2 ⟨rfl, hb2⟩
        have Hb2 := Lib.hid hb2
        clear hb2
        go_wp2_with fail
        go_ret2
        exact ⟨rfl, hO.out.2.trans (Hb2.out.mono hO.out.2.size)⟩
end Go.Proofs.YtebpggfccljagaaGreatDoor

/- ref30.Line (printed by gen_rline.py). -/
namespace Go.Proofs.YtebpggfccljagaaGreatDoor
open Go.RowKit
open Wh
set_option linter.unusedSimpArgs false
set_option linter.unusedVariables false

end Go.Proofs.YtebpggfccljagaaGreatDoor

/- ref30.SameStmt (printed by gen_sst.py). -/
namespace Go.Proofs.YtebpggfccljagaaGreatDoor
open Go.RowKit
open Wh
set_option linter.unusedSimpArgs false
set_option linter.unusedVariables false

set_option maxRecDepth 100000 in
set_option maxHeartbeats 2000000 in
theorem sst_0 {w : World} {v nm vx nmx : ByteArray} {A Ax : Option Addr} {n c nx cx : Nat} (e0 : ¬ v = vx) :
    Calls Tryz.prog 11 #[.agg #[.string v, .string nm, .slice A n c], .agg #[.string vx, .string nmx, .slice Ax nx cx]] w (fun e w' => e = .returned (.bool false) ∧ Below w.heap.size w w') := by
  have e0a : ¬ v.toList = vx.toList := fun h => e0 (tl_inj h)
  have e0b : (v.toList == vx.toList) = false := by simpa using e0a
  have e0c : (v.toList != vx.toList) = true := by simpa using e0a
  have hbx := Box.new w 25 #[.string v, .string nm, .slice A n c]
  have hby := Box.new (w.alloc (.cells #[.string v, .string nm, .slice A n c] 25)) 25 #[.string vx, .string nmx, .slice Ax nx cx]
  have hbw := hbx.2.trans (hby.2.mono hbx.2.size)
  clear hbx hby
  go_enter Tryz.func11, Tryz.ntmps11
  go_wp2_with fail
  go_ret
  exact ⟨rfl, hbw⟩
set_option maxRecDepth 100000 in
set_option maxHeartbeats 2000000 in
theorem sst_1 {w : World} {v nm vx nmx : ByteArray} {A Ax : Option Addr} {n c nx cx : Nat} (e1 : ¬ nm = nmx) :
    Calls Tryz.prog 11 #[.agg #[.string v, .string nm, .slice A n c], .agg #[.string v, .string nmx, .slice Ax nx cx]] w (fun e w' => e = .returned (.bool false) ∧ Below w.heap.size w w') := by
  have e0a : ¬ nm.toList = nmx.toList := fun h => e1 (tl_inj h)
  have e0b : (nm.toList == nmx.toList) = false := by simpa using e0a
  have e0c : (nm.toList != nmx.toList) = true := by simpa using e0a
  have hbx := Box.new w 25 #[.string v, .string nm, .slice A n c]
  have hby := Box.new (w.alloc (.cells #[.string v, .string nm, .slice A n c] 25)) 25 #[.string v, .string nmx, .slice Ax nx cx]
  have hbw := hbx.2.trans (hby.2.mono hbx.2.size)
  clear hbx hby
  go_enter Tryz.func11, Tryz.ntmps11
  go_wp2_with fail
  go_ret
  exact ⟨rfl, hbw⟩
set_option maxRecDepth 100000 in
set_option maxHeartbeats 2000000 in
theorem sst_2 {w : World} {v nm vx nmx : ByteArray} {A Ax : Option Addr} {n c nx cx : Nat} (e2 : ¬ n = nx) :
    Calls Tryz.prog 11 #[.agg #[.string v, .string nm, .slice A n c], .agg #[.string v, .string nm, .slice Ax nx cx]] w (fun e w' => e = .returned (.bool false) ∧ Below w.heap.size w w') := by
  have e0a : ((n : Int) == (nx : Int)) = false := by simp; omega
  have e0b : ((n : Int) != (nx : Int)) = true := by simp; omega
  have e0c : ¬ (n : Int) = (nx : Int) := by omega
  have hbx := Box.new w 25 #[.string v, .string nm, .slice A n c]
  have hby := Box.new (w.alloc (.cells #[.string v, .string nm, .slice A n c] 25)) 25 #[.string v, .string nm, .slice Ax nx cx]
  have hbw := hbx.2.trans (hby.2.mono hbx.2.size)
  clear hbx hby
  go_enter Tryz.func11, Tryz.ntmps11
  go_wp2_with fail
  go_ret
  exact ⟨rfl, hbw⟩
theorem take_stepA {l m : List ARow} {i : Nat} (hl : i < l.length) (hm : i < m.length) (h : (l.take i).map (fun r => r.2.2) = (m.take i).map (fun r => r.2.2)) (hx : l[i].2.2 = m[i].2.2) : (l.take (i + 1)).map (fun r => r.2.2) = (m.take (i + 1)).map (fun r => r.2.2) := by
  rw [List.take_succ_eq_append_getElem hl, List.take_succ_eq_append_getElem hm, List.map_append, List.map_append, h]
  simp [hx]
theorem map_getA {l m : List ARow} {i : Nat} (hl : i < l.length) (hm : i < m.length) (h : l.map (fun r => r.2.2) = m.map (fun r => r.2.2)) : l[i].2.2 = m[i].2.2 := by
  have h1 : (l.map (fun r => r.2.2))[i]? = (m.map (fun r => r.2.2))[i]? := by rw [h]
  rw [List.getElem?_map, List.getElem?_map, List.getElem?_eq_getElem hl, List.getElem?_eq_getElem hm] at h1
  simpa using h1
set_option maxRecDepth 100000 in
set_option maxHeartbeats 4000000 in
theorem sst_3 {w : World} {B : Nat} {v nm : ByteArray} {A Ax : Option Addr} {n c cx : Nat} {rs qs : List ARow} (hr : ReadsA w B A rs) (hq : ReadsA w B Ax qs) (hB : B ≤ w.heap.size) (hn : n = rs.length) (hnx : n = qs.length) (hnl : n ≤ 1000000) (hf : ∀ r ∈ rs, r.2.2.fit) (hfx : ∀ r ∈ qs, r.2.2.fit) {b : Bool} (hb : b = true ↔ rs.map (fun r => r.2.2) = qs.map (fun r => r.2.2)) :
    Calls Tryz.prog 11 #[.agg #[.string v, .string nm, .slice A n c], .agg #[.string v, .string nm, .slice Ax n cx]] w (fun e w' => e = .returned (.bool b) ∧ Below w.heap.size w w') := by
  have Hr := Lib.hid (hr.more hB)
  have Hq := Lib.hid (hq.more hB)
  have Hn := Lib.hid hn
  have Hnx := Lib.hid hnx
  have Hf := Lib.hid hf
  have Hfx := Lib.hid hfx
  have Hb := Lib.hid hb
  clear hr hq hB hn hnx hf hfx hb
  have hbx := Box.new w 25 #[.string v, .string nm, .slice A n c]
  have hby := Box.new (w.alloc (.cells #[.string v, .string nm, .slice A n c] 25)) 25 #[.string v, .string nm, .slice Ax n cx]
  have hbw := hbx.2.trans (hby.2.mono hbx.2.size)
  have hbx2 := hbx.1.below hby.2 hbx.1.lt
  have hby2 : Blk _ (w.heap.size + 1) 25 _ := (by have := hby.1; simpa using this)
  have Hst0 := Lib.hid (And.intro hbx2 (And.intro hby2 hbw))
  clear hbx hby hbx2 hby2 hbw
  have hbe : ((n : Int) == (n : Int)) = true := by simp
  have hbe2 : ((n : Int) != (n : Int)) = false := by simp
  go_enter Tryz.func11, Tryz.ntmps11
  go_wp2_with fail
  go_loopg [5] n (fun k iv wr => ∃ (i : Nat), iv = .int .i64 (i : Int) ∧ k = n - i ∧ i ≤ n ∧ Hid ((rs.take i).map (fun r => r.2.2) = (qs.take i).map (fun r => r.2.2)) ∧ Hid (Blk wr w.heap.size 25 #[.string v, .string nm, .slice A n c] ∧ Blk wr (w.heap.size + 1) 25 #[.string v, .string nm, .slice Ax n cx] ∧ Below w.heap.size w wr))
  case atStart => exact ⟨0, rfl, by omega, by omega, Lib.hid rfl, Hst0⟩
  case round =>
    obtain ⟨i, rfl, hk, hi, htk, hO⟩ := hrel
    have Hk := Lib.hid hk
    clear hk
    have b2 := hO.out.1.cell 2
    have g2 := hO.out.2.1.cell 2
    by_cases hin : i < n
    · have hil : i < rs.length := by rw [← Hn.out]; omega
      have hjl : i < qs.length := by rw [← Hnx.out]; omega
      obtain ⟨ad, rfl, hb1, ⟨c0, c1, c2, c3, c4, c5, c6, c7, c8, c9, c10, c11⟩, ha⟩ := (Hr.out.below hO.out.2.2).cells hil
      obtain ⟨ad2, rfl, hb3, ⟨d0, d1, d2, d3, d4, d5, d6, d7, d8, d9, d10, d11⟩, hax⟩ := (Hq.out.below hO.out.2.2).cells hjl
      obtain ⟨u, hu⟩ := ex_b (rs[i].2.2 = qs[i].2.2)
      have HM := Lib.hid (fun W (hb : Below w.heap.size w W) => same_arg (w := W) ((Hr.out.2 _ (List.getElem_mem hil)).below hb) ((Hq.out.2 _ (List.getElem_mem hjl)).below hb) hb.size (Nat.le_trans (Hf.out _ (List.getElem_mem hil)).wd (by decide)) (Nat.le_trans (Hfx.out _ (List.getElem_mem hjl)).wd (by decide)) hu)
      have hii : (i : Int) < (n : Int) := by omega
      have Hnext := Lib.hid (fun h => take_stepA hil hjl htk.out (hu.1 h))
      have Hno := Lib.hid (fun (h : u = false) => show b = false from no_b Hb.out fun h2 => by rw [hu.2 (map_getA hil hjl h2)] at h; cases h)
      clear ha hax hu
      generalize rs[i] = r at *
      generalize qs[i] = q at *
      clear hil hjl
      obtain ⟨A1, c1', x⟩ := r
      obtain ⟨A2, c2', y⟩ := q
      simp only [argV] at HM
      simp only at c0 c1 c2 c3 c4 c5 c6 c7 c8 c9 c10 c11 d0 d1 d2 d3 d4 d5 d6 d7 d8 d9 d10 d11
      have L1 := hO.out.1.lt
      have L2 := hO.out.2.1.lt
      have L3 : (ad.add (i * 12)).block < wr.heap.size := by rw [block_of_add]; omega
      have L4 : (ad2.add (i * 12)).block < wr.heap.size := by rw [block_of_add]; omega
      have Hkeep : Hid (∀ w', Below wr.heap.size wr w' → (w'.cell? ⟨w.heap.size, 2, none⟩ = some (.slice (some ad) n c) ∧ w'.cell? ⟨w.heap.size + 1, 2, none⟩ = some (.slice (some ad2) n cx) ∧ w'.cell? (ad.add (i * 12)) = some (.int .i64 x.k) ∧ w'.cell? ⟨(ad.add (i * 12)).block, (ad.add (i * 12)).off + 1, none⟩ = some (.string x.nm) ∧ w'.cell? ⟨(ad.add (i * 12)).block, (ad.add (i * 12)).off + 2, none⟩ = some (.bool x.n0) ∧ w'.cell? ⟨(ad.add (i * 12)).block, (ad.add (i * 12)).off + 3, none⟩ = some (.string x.s0) ∧ w'.cell? ⟨(ad.add (i * 12)).block, (ad.add (i * 12)).off + 4, none⟩ = some (.bool x.n1) ∧ w'.cell? ⟨(ad.add (i * 12)).block, (ad.add (i * 12)).off + 5, none⟩ = some (.string x.s1) ∧ w'.cell? ⟨(ad.add (i * 12)).block, (ad.add (i * 12)).off + 6, none⟩ = some (.bool x.n2) ∧ w'.cell? ⟨(ad.add (i * 12)).block, (ad.add (i * 12)).off + 7, none⟩ = some (.string x.s2) ∧ w'.cell? ⟨(ad.add (i * 12)).block, (ad.add (i * 12)).off + 8, none⟩ = some (.bool x.n3) ∧ w'.cell? ⟨(ad.add (i * 12)).block, (ad.add (i * 12)).off + 9, none⟩ = some (.string x.s3) ∧ w'.cell? ⟨(ad.add (i * 12)).block, (ad.add (i * 12)).off + 10, none⟩ = some (.slice A1 x.wd.length c1') ∧ w'.cell? ⟨(ad.add (i * 12)).block, (ad.add (i * 12)).off + 11, none⟩ = some (.int .i64 x.ct) ∧ w'.cell? (ad2.add (i * 12)) = some (.int .i64 y.k) ∧ w'.cell? ⟨(ad2.add (i * 12)).block, (ad2.add (i * 12)).off + 1, none⟩ = some (.string y.nm) ∧ w'.cell? ⟨(ad2.add (i * 12)).block, (ad2.add (i * 12)).off + 2, none⟩ = some (.bool y.n0) ∧ w'.cell? ⟨(ad2.add (i * 12)).block, (ad2.add (i * 12)).off + 3, none⟩ = some (.string y.s0) ∧ w'.cell? ⟨(ad2.add (i * 12)).block, (ad2.add (i * 12)).off + 4, none⟩ = some (.bool y.n1) ∧ w'.cell? ⟨(ad2.add (i * 12)).block, (ad2.add (i * 12)).off + 5, none⟩ = some (.string y.s1) ∧ w'.cell? ⟨(ad2.add (i * 12)).block, (ad2.add (i * 12)).off + 6, none⟩ = some (.bool y.n2) ∧ w'.cell? ⟨(ad2.add (i * 12)).block, (ad2.add (i * 12)).off + 7, none⟩ = some (.string y.s2) ∧ w'.cell? ⟨(ad2.add (i * 12)).block, (ad2.add (i * 12)).off + 8, none⟩ = some (.bool y.n3) ∧ w'.cell? ⟨(ad2.add (i * 12)).block, (ad2.add (i * 12)).off + 9, none⟩ = some (.string y.s3) ∧ w'.cell? ⟨(ad2.add (i * 12)).block, (ad2.add (i * 12)).off + 10, none⟩ = some (.slice A2 y.wd.length c2') ∧ w'.cell? ⟨(ad2.add (i * 12)).block, (ad2.add (i * 12)).off + 11, none⟩ = some (.int .i64 y.ct))) := Lib.hid fun w' hb => ⟨(show w'.cell? ⟨w.heap.size, 2, none⟩ = wr.cell? ⟨w.heap.size, 2, none⟩ from hb.cell L1).trans b2, (show w'.cell? ⟨w.heap.size + 1, 2, none⟩ = wr.cell? ⟨w.heap.size + 1, 2, none⟩ from hb.cell L2).trans g2, (show w'.cell? (ad.add (i * 12)) = wr.cell? (ad.add (i * 12)) from hb.cell L3).trans c0, (show w'.cell? ⟨(ad.add (i * 12)).block, (ad.add (i * 12)).off + 1, none⟩ = wr.cell? ⟨(ad.add (i * 12)).block, (ad.add (i * 12)).off + 1, none⟩ from hb.cell L3).trans c1, (show w'.cell? ⟨(ad.add (i * 12)).block, (ad.add (i * 12)).off + 2, none⟩ = wr.cell? ⟨(ad.add (i * 12)).block, (ad.add (i * 12)).off + 2, none⟩ from hb.cell L3).trans c2, (show w'.cell? ⟨(ad.add (i * 12)).block, (ad.add (i * 12)).off + 3, none⟩ = wr.cell? ⟨(ad.add (i * 12)).block, (ad.add (i * 12)).off + 3, none⟩ from hb.cell L3).trans c3, (show w'.cell? ⟨(ad.add (i * 12)).block, (ad.add (i * 12)).off + 4, none⟩ = wr.cell? ⟨(ad.add (i * 12)).block, (ad.add (i * 12)).off + 4, none⟩ from hb.cell L3).trans c4, (show w'.cell? ⟨(ad.add (i * 12)).block, (ad.add (i * 12)).off + 5, none⟩ = wr.cell? ⟨(ad.add (i * 12)).block, (ad.add (i * 12)).off + 5, none⟩ from hb.cell L3).trans c5, (show w'.cell? ⟨(ad.add (i * 12)).block, (ad.add (i * 12)).off + 6, none⟩ = wr.cell? ⟨(ad.add (i * 12)).block, (ad.add (i * 12)).off + 6, none⟩ from hb.cell L3).trans c6, (show w'.cell? ⟨(ad.add (i * 12)).block, (ad.add (i * 12)).off + 7, none⟩ = wr.cell? ⟨(ad.add (i * 12)).block, (ad.add (i * 12)).off + 7, none⟩ from hb.cell L3).trans c7, (show w'.cell? ⟨(ad.add (i * 12)).block, (ad.add (i * 12)).off + 8, none⟩ = wr.cell? ⟨(ad.add (i * 12)).block, (ad.add (i * 12)).off + 8, none⟩ from hb.cell L3).trans c8, (show w'.cell? ⟨(ad.add (i * 12)).block, (ad.add (i * 12)).off + 9, none⟩ = wr.cell? ⟨(ad.add (i * 12)).block, (ad.add (i * 12)).off + 9, none⟩ from hb.cell L3).trans c9, (show w'.cell? ⟨(ad.add (i * 12)).block, (ad.add (i * 12)).off + 10, none⟩ = wr.cell? ⟨(ad.add (i * 12)).block, (ad.add (i * 12)).off + 10, none⟩ from hb.cell L3).trans c10, (show w'.cell? ⟨(ad.add (i * 12)).block, (ad.add (i * 12)).off + 11, none⟩ = wr.cell? ⟨(ad.add (i * 12)).block, (ad.add (i * 12)).off + 11, none⟩ from hb.cell L3).trans c11, (show w'.cell? (ad2.add (i * 12)) = wr.cell? (ad2.add (i * 12)) from hb.cell L4).trans d0, (show w'.cell? ⟨(ad2.add (i * 12)).block, (ad2.add (i * 12)).off + 1, none⟩ = wr.cell? ⟨(ad2.add (i * 12)).block, (ad2.add (i * 12)).off + 1, none⟩ from hb.cell L4).trans d1, (show w'.cell? ⟨(ad2.add (i * 12)).block, (ad2.add (i * 12)).off + 2, none⟩ = wr.cell? ⟨(ad2.add (i * 12)).block, (ad2.add (i * 12)).off + 2, none⟩ from hb.cell L4).trans d2, (show w'.cell? ⟨(ad2.add (i * 12)).block, (ad2.add (i * 12)).off + 3, none⟩ = wr.cell? ⟨(ad2.add (i * 12)).block, (ad2.add (i * 12)).off + 3, none⟩ from hb.cell L4).trans d3, (show w'.cell? ⟨(ad2.add (i * 12)).block, (ad2.add (i * 12)).off + 4, none⟩ = wr.cell? ⟨(ad2.add (i * 12)).block, (ad2.add (i * 12)).off + 4, none⟩ from hb.cell L4).trans d4, (show w'.cell? ⟨(ad2.add (i * 12)).block, (ad2.add (i * 12)).off + 5, none⟩ = wr.cell? ⟨(ad2.add (i * 12)).block, (ad2.add (i * 12)).off + 5, none⟩ from hb.cell L4).trans d5, (show w'.cell? ⟨(ad2.add (i * 12)).block, (ad2.add (i * 12)).off + 6, none⟩ = wr.cell? ⟨(ad2.add (i * 12)).block, (ad2.add (i * 12)).off + 6, none⟩ from hb.cell L4).trans d6, (show w'.cell? ⟨(ad2.add (i * 12)).block, (ad2.add (i * 12)).off + 7, none⟩ = wr.cell? ⟨(ad2.add (i * 12)).block, (ad2.add (i * 12)).off + 7, none⟩ from hb.cell L4).trans d7, (show w'.cell? ⟨(ad2.add (i * 12)).block, (ad2.add (i * 12)).off + 8, none⟩ = wr.cell? ⟨(ad2.add (i * 12)).block, (ad2.add (i * 12)).off + 8, none⟩ from hb.cell L4).trans d8, (show w'.cell? ⟨(ad2.add (i * 12)).block, (ad2.add (i * 12)).off + 9, none⟩ = wr.cell? ⟨(ad2.add (i * 12)).block, (ad2.add (i * 12)).off + 9, none⟩ from hb.cell L4).trans d9, (show w'.cell? ⟨(ad2.add (i * 12)).block, (ad2.add (i * 12)).off + 10, none⟩ = wr.cell? ⟨(ad2.add (i * 12)).block, (ad2.add (i * 12)).off + 10, none⟩ from hb.cell L4).trans d10, (show w'.cell? ⟨(ad2.add (i * 12)).block, (ad2.add (i * 12)).off + 11, none⟩ = wr.cell? ⟨(ad2.add (i * 12)).block, (ad2.add (i * 12)).off + 11, none⟩ from hb.cell L4).trans d11⟩
      have Hbw := Lib.hid hO.out.2.2
      clear L1 L2 L3 L4 hb1 hb3
      go_wp2_with fail
      go_region_held3 (fun w' => w'.cell? ⟨w.heap.size, 2, none⟩ = some (.slice (some ad) n c) ∧ w'.cell? ⟨w.heap.size + 1, 2, none⟩ = some (.slice (some ad2) n cx) ∧ w'.cell? (ad.add (i * 12)) = some (.int .i64 x.k) ∧ w'.cell? ⟨(ad.add (i * 12)).block, (ad.add (i * 12)).off + 1, none⟩ = some (.string x.nm) ∧ w'.cell? ⟨(ad.add (i * 12)).block, (ad.add (i * 12)).off + 2, none⟩ = some (.bool x.n0) ∧ w'.cell? ⟨(ad.add (i * 12)).block, (ad.add (i * 12)).off + 3, none⟩ = some (.string x.s0) ∧ w'.cell? ⟨(ad.add (i * 12)).block, (ad.add (i * 12)).off + 4, none⟩ = some (.bool x.n1) ∧ w'.cell? ⟨(ad.add (i * 12)).block, (ad.add (i * 12)).off + 5, none⟩ = some (.string x.s1) ∧ w'.cell? ⟨(ad.add (i * 12)).block, (ad.add (i * 12)).off + 6, none⟩ = some (.bool x.n2) ∧ w'.cell? ⟨(ad.add (i * 12)).block, (ad.add (i * 12)).off + 7, none⟩ = some (.string x.s2) ∧ w'.cell? ⟨(ad.add (i * 12)).block, (ad.add (i * 12)).off + 8, none⟩ = some (.bool x.n3) ∧ w'.cell? ⟨(ad.add (i * 12)).block, (ad.add (i * 12)).off + 9, none⟩ = some (.string x.s3) ∧ w'.cell? ⟨(ad.add (i * 12)).block, (ad.add (i * 12)).off + 10, none⟩ = some (.slice A1 x.wd.length c1') ∧ w'.cell? ⟨(ad.add (i * 12)).block, (ad.add (i * 12)).off + 11, none⟩ = some (.int .i64 x.ct) ∧ w'.cell? (ad2.add (i * 12)) = some (.int .i64 y.k) ∧ w'.cell? ⟨(ad2.add (i * 12)).block, (ad2.add (i * 12)).off + 1, none⟩ = some (.string y.nm) ∧ w'.cell? ⟨(ad2.add (i * 12)).block, (ad2.add (i * 12)).off + 2, none⟩ = some (.bool y.n0) ∧ w'.cell? ⟨(ad2.add (i * 12)).block, (ad2.add (i * 12)).off + 3, none⟩ = some (.string y.s0) ∧ w'.cell? ⟨(ad2.add (i * 12)).block, (ad2.add (i * 12)).off + 4, none⟩ = some (.bool y.n1) ∧ w'.cell? ⟨(ad2.add (i * 12)).block, (ad2.add (i * 12)).off + 5, none⟩ = some (.string y.s1) ∧ w'.cell? ⟨(ad2.add (i * 12)).block, (ad2.add (i * 12)).off + 6, none⟩ = some (.bool y.n2) ∧ w'.cell? ⟨(ad2.add (i * 12)).block, (ad2.add (i * 12)).off + 7, none⟩ = some (.string y.s2) ∧ w'.cell? ⟨(ad2.add (i * 12)).block, (ad2.add (i * 12)).off + 8, none⟩ = some (.bool y.n3) ∧ w'.cell? ⟨(ad2.add (i * 12)).block, (ad2.add (i * 12)).off + 9, none⟩ = some (.string y.s3) ∧ w'.cell? ⟨(ad2.add (i * 12)).block, (ad2.add (i * 12)).off + 10, none⟩ = some (.slice A2 y.wd.length c2') ∧ w'.cell? ⟨(ad2.add (i * 12)).block, (ad2.add (i * 12)).off + 11, none⟩ = some (.int .i64 y.ct))
        (first
          | go_keep
          | exact Hkeep.out _ (Below.drew' hb6))
        (first
          | (go_at_call 41; (with_reducible refine (HM.out _ ?_).mono ?_); (first | exact Hbw.out.drew | exact Hbw.out | skip); rintro _ W6 ⟨rfl, hb6⟩))
      have hbel := Hbw.out.trans ((Below.drew' hb6).mono Hbw.out.size)
      have Hbel := Lib.hid hbel
      have Hbx := Lib.hid (hO.out.1.below (Below.drew' hb6) hO.out.1.lt)
      have Hby := Lib.hid (hO.out.2.1.below (Below.drew' hb6) hO.out.2.1.lt)
      clear hbel
      cases u
      · have Hbad := Lib.hid (Hno.out rfl)
        go_wp2_with fail
        go_ret
        exact ⟨by rw [Hbad.out]; rfl, Hbel.out⟩
      · have Hn2 := Lib.hid (Hnext.out rfl)
        go_wp2_with fail
        go_roundg (n - (i + 1))
        case measure => have := Hk.out; omega
        case rel => exact ⟨i + 1, rfl, rfl, by omega, Hn2, Lib.hid ⟨Hbx.out, Hby.out, Hbel.out⟩⟩
    · have hii : ¬ (i : Int) < (n : Int) := by omega
      have Hall := Lib.hid (Hb.out.2 (by
        have h := htk.out
        rwa [List.take_of_length_le (by have := Hn.out; omega), List.take_of_length_le (by have := Hnx.out; omega)] at h))
      go_wp2_with fail
      go_ret
      exact ⟨by rw [Hall.out]; rfl, hO.out.2.2⟩
theorem sst_any {w : World} {B : Nat} {s t : StR} (hr : ReadsA w B s.A s.rs) (hq : ReadsA w B t.A t.rs) (hB : B ≤ w.heap.size) (hf : s.p.fit) (hfx : t.p.fit) {b : Bool} (hb : b = true ↔ s.p = t.p) :
    Calls Tryz.prog 11 #[.agg s.cells, .agg t.cells] w (fun e w' => e = .returned (.bool b) ∧ Below w.heap.size w w') := by
  have hl : s.rs.length ≤ 1000000 := by
    have := hf.len
    unfold StR.p at this
    simpa using this
  have hf1 : ∀ r ∈ s.rs, r.2.2.fit := fun r h => arg_fit hf h
  have hf2 : ∀ r ∈ t.rs, r.2.2.fit := fun r h => arg_fit hfx h
  clear hf hfx
  obtain ⟨v, nm, A, c, rs⟩ := s
  obtain ⟨vx, nmx, Ax, cx, qs⟩ := t
  unfold StR.p at hb
  unfold StR.cells
  simp only [StP.mk.injEq] at hb hl hr hq hf1 hf2 ⊢
  by_cases e0 : v = vx
  · subst e0
    by_cases e1 : nm = nmx
    · subst e1
      by_cases e2 : rs.length = qs.length
      · rw [← e2]
        exact sst_3 hr hq hB rfl e2 hl hf1 hf2 (hb.trans ⟨fun h => h.2.2, fun h => ⟨rfl, rfl, h⟩⟩)
      · rw [no_b hb fun h => e2 (by have := congrArg List.length h.2.2; simpa using this)]
        exact sst_2 (vx := v) (nmx := nm) e2
    · rw [no_b hb fun h => e1 h.2.1]
      exact sst_1 (vx := v) e1
  · rw [no_b hb fun h => e0 h.1]
    exact sst_0 e0
end Go.Proofs.YtebpggfccljagaaGreatDoor

/- script.Same$1 (printed by gen_fsame.py). -/
namespace Go.Proofs.YtebpggfccljagaaGreatDoor
open Go.RowKit
open Wh
set_option linter.unusedSimpArgs false
set_option linter.unusedVariables false

set_option maxRecDepth 100000 in
set_option maxHeartbeats 2000000 in
theorem fsame_0 {w : World} {B : Nat} {k ct : Int} {nm : ByteArray} {n0 n1 n2 n3 : Bool} {s0 s1 s2 s3 : ByteArray} {A : Option Addr} {n c : Nat} {l : List Int} {kx ctx : Int} {nmx : ByteArray} {n0x n1x n2x n3x : Bool} {s0x s1x s2x s3x : ByteArray} {Ax : Option Addr} {nx cx : Nat} {lx : List Int} (hr : ReadsI w B A l) (hrx : ReadsI w B Ax lx) (hB : B ≤ w.heap.size) (hn : n = l.length) (hnx : nx = lx.length) (hnl : n ≤ 1000000000) (hnlx : nx ≤ 1000000000) (e0 : ¬ k = kx) :
    Calls Tryz.prog 51 #[.agg #[.int .i64 k, .string nm, .bool n0, .string s0, .bool n1, .string s1, .bool n2, .string s2, .bool n3, .string s3, .slice A n c, .int .i64 ct], .agg #[.int .i64 kx, .string nmx, .bool n0x, .string s0x, .bool n1x, .string s1x, .bool n2x, .string s2x, .bool n3x, .string s3x, .slice Ax nx cx, .int .i64 ctx]] w (fun e w' => e = .returned (.bool false) ∧ Below w.heap.size w w') := by
  clear hr hrx hn hnx hnl hnlx
  have e1b : (k == kx) = false := by simpa using e0
  have hbx := Box.new w 41 #[.int .i64 k, .string nm, .bool n0, .string s0, .bool n1, .string s1, .bool n2, .string s2, .bool n3, .string s3, .slice A n c, .int .i64 ct]
  have hby := Box.new (w.alloc (.cells #[.int .i64 k, .string nm, .bool n0, .string s0, .bool n1, .string s1, .bool n2, .string s2, .bool n3, .string s3, .slice A n c, .int .i64 ct] 41)) 41 #[.int .i64 kx, .string nmx, .bool n0x, .string s0x, .bool n1x, .string s1x, .bool n2x, .string s2x, .bool n3x, .string s3x, .slice Ax nx cx, .int .i64 ctx]
  have hbw := hbx.2.trans (hby.2.mono hbx.2.size)
  clear hbx hby
  go_enter Tryz.func51, Tryz.ntmps51
  go_wp2_with fail
  go_ret
  exact ⟨rfl, ⟨hbw.os, hbw.tape, hbw.output, hbw.size, hbw.block⟩⟩
set_option maxRecDepth 100000 in
set_option maxHeartbeats 2000000 in
theorem fsame_1 {w : World} {B : Nat} {k ct : Int} {nm : ByteArray} {n0 n1 n2 n3 : Bool} {s0 s1 s2 s3 : ByteArray} {A : Option Addr} {n c : Nat} {l : List Int} {kx ctx : Int} {nmx : ByteArray} {n0x n1x n2x n3x : Bool} {s0x s1x s2x s3x : ByteArray} {Ax : Option Addr} {nx cx : Nat} {lx : List Int} (hr : ReadsI w B A l) (hrx : ReadsI w B Ax lx) (hB : B ≤ w.heap.size) (hn : n = l.length) (hnx : nx = lx.length) (hnl : n ≤ 1000000000) (hnlx : nx ≤ 1000000000) (e0 : k = kx) (e1 : ¬ nm = nmx) :
    Calls Tryz.prog 51 #[.agg #[.int .i64 k, .string nm, .bool n0, .string s0, .bool n1, .string s1, .bool n2, .string s2, .bool n3, .string s3, .slice A n c, .int .i64 ct], .agg #[.int .i64 kx, .string nmx, .bool n0x, .string s0x, .bool n1x, .string s1x, .bool n2x, .string s2x, .bool n3x, .string s3x, .slice Ax nx cx, .int .i64 ctx]] w (fun e w' => e = .returned (.bool false) ∧ Below w.heap.size w w') := by
  clear hr hrx hn hnx hnl hnlx
  subst e0
  have e2a : ¬ nm.toList = nmx.toList := fun h => e1 (tl_inj h)
  have e2b : (nm.toList == nmx.toList) = false := by simpa using e2a
  have hbx := Box.new w 41 #[.int .i64 k, .string nm, .bool n0, .string s0, .bool n1, .string s1, .bool n2, .string s2, .bool n3, .string s3, .slice A n c, .int .i64 ct]
  have hby := Box.new (w.alloc (.cells #[.int .i64 k, .string nm, .bool n0, .string s0, .bool n1, .string s1, .bool n2, .string s2, .bool n3, .string s3, .slice A n c, .int .i64 ct] 41)) 41 #[.int .i64 k, .string nmx, .bool n0x, .string s0x, .bool n1x, .string s1x, .bool n2x, .string s2x, .bool n3x, .string s3x, .slice Ax nx cx, .int .i64 ctx]
  have hbw := hbx.2.trans (hby.2.mono hbx.2.size)
  clear hbx hby
  go_enter Tryz.func51, Tryz.ntmps51
  go_wp2_with fail
  go_ret
  exact ⟨rfl, ⟨hbw.os, hbw.tape, hbw.output, hbw.size, hbw.block⟩⟩
set_option maxRecDepth 100000 in
set_option maxHeartbeats 2000000 in
theorem fsame_2 {w : World} {B : Nat} {k ct : Int} {nm : ByteArray} {n0 n1 n2 n3 : Bool} {s0 s1 s2 s3 : ByteArray} {A : Option Addr} {n c : Nat} {l : List Int} {kx ctx : Int} {nmx : ByteArray} {n0x n1x n2x n3x : Bool} {s0x s1x s2x s3x : ByteArray} {Ax : Option Addr} {nx cx : Nat} {lx : List Int} (hr : ReadsI w B A l) (hrx : ReadsI w B Ax lx) (hB : B ≤ w.heap.size) (hn : n = l.length) (hnx : nx = lx.length) (hnl : n ≤ 1000000000) (hnlx : nx ≤ 1000000000) (e0 : k = kx) (e1 : nm = nmx) (e2 : ¬ (n0 = n0x ∧ s0 = s0x ∧ n1 = n1x ∧ s1 = s1x ∧ n2 = n2x ∧ s2 = s2x ∧ n3 = n3x ∧ s3 = s3x)) :
    Calls Tryz.prog 51 #[.agg #[.int .i64 k, .string nm, .bool n0, .string s0, .bool n1, .string s1, .bool n2, .string s2, .bool n3, .string s3, .slice A n c, .int .i64 ct], .agg #[.int .i64 kx, .string nmx, .bool n0x, .string s0x, .bool n1x, .string s1x, .bool n2x, .string s2x, .bool n3x, .string s3x, .slice Ax nx cx, .int .i64 ctx]] w (fun e w' => e = .returned (.bool false) ∧ Below w.heap.size w w') := by
  clear hr hrx hn hnx hnl hnlx
  subst e0
  subst e1
  have hzq := fun W => eql_gs n0 n0x n1 n1x n2 n2x n3 n3x s0 s0x s1 s1x s2 s2x s3 s3x W
  rw [decide_eq_false e2] at hzq
  clear e2
  have hbx := Box.new w 41 #[.int .i64 k, .string nm, .bool n0, .string s0, .bool n1, .string s1, .bool n2, .string s2, .bool n3, .string s3, .slice A n c, .int .i64 ct]
  have hby := Box.new (w.alloc (.cells #[.int .i64 k, .string nm, .bool n0, .string s0, .bool n1, .string s1, .bool n2, .string s2, .bool n3, .string s3, .slice A n c, .int .i64 ct] 41)) 41 #[.int .i64 k, .string nm, .bool n0x, .string s0x, .bool n1x, .string s1x, .bool n2x, .string s2x, .bool n3x, .string s3x, .slice Ax nx cx, .int .i64 ctx]
  have hbw := hbx.2.trans (hby.2.mono hbx.2.size)
  clear hbx hby
  go_enter Tryz.func51, Tryz.ntmps51
  go_wp2_with fail
  go_ret
  exact ⟨rfl, ⟨hbw.os, hbw.tape, hbw.output, hbw.size, hbw.block⟩⟩
set_option maxRecDepth 100000 in
set_option maxHeartbeats 2000000 in
theorem fsame_3 {w : World} {B : Nat} {k ct : Int} {nm : ByteArray} {n0 n1 n2 n3 : Bool} {s0 s1 s2 s3 : ByteArray} {A : Option Addr} {n c : Nat} {l : List Int} {kx ctx : Int} {nmx : ByteArray} {n0x n1x n2x n3x : Bool} {s0x s1x s2x s3x : ByteArray} {Ax : Option Addr} {nx cx : Nat} {lx : List Int} (hr : ReadsI w B A l) (hrx : ReadsI w B Ax lx) (hB : B ≤ w.heap.size) (hn : n = l.length) (hnx : nx = lx.length) (hnl : n ≤ 1000000000) (hnlx : nx ≤ 1000000000) (e0 : k = kx) (e1 : nm = nmx) (e2 : (n0 = n0x ∧ s0 = s0x ∧ n1 = n1x ∧ s1 = s1x ∧ n2 = n2x ∧ s2 = s2x ∧ n3 = n3x ∧ s3 = s3x)) (e3 : ¬ l = lx) :
    Calls Tryz.prog 51 #[.agg #[.int .i64 k, .string nm, .bool n0, .string s0, .bool n1, .string s1, .bool n2, .string s2, .bool n3, .string s3, .slice A n c, .int .i64 ct], .agg #[.int .i64 kx, .string nmx, .bool n0x, .string s0x, .bool n1x, .string s1x, .bool n2x, .string s2x, .bool n3x, .string s3x, .slice Ax nx cx, .int .i64 ctx]] w (fun e w' => e = .returned (.bool false) ∧ Below w.heap.size w w') := by
  have HS : Hid (∀ W, Below w.heap.size w W → Calls Tryz.prog 52 #[.slice A n c, .slice Ax nx cx] W (fun e w' => ∃ d, e = .returned (.bool false) ∧ W.drewN d = w')) := Lib.hid fun W hb => (equal_any ((hr.more hB).below hb) ((hrx.more hB).below hb) hn hnx hnl hnlx).mono fun e w' ⟨d, h1, h2⟩ => ⟨d, by rw [h1, decide_eq_false e3], h2⟩
  clear e3
  clear hr hrx hn hnx hnl hnlx
  subst e0
  subst e1
  have hzq := fun W => eql_gs n0 n0x n1 n1x n2 n2x n3 n3x s0 s0x s1 s1x s2 s2x s3 s3x W
  rw [decide_eq_true e2] at hzq
  clear e2
  have hbx := Box.new w 41 #[.int .i64 k, .string nm, .bool n0, .string s0, .bool n1, .string s1, .bool n2, .string s2, .bool n3, .string s3, .slice A n c, .int .i64 ct]
  have hby := Box.new (w.alloc (.cells #[.int .i64 k, .string nm, .bool n0, .string s0, .bool n1, .string s1, .bool n2, .string s2, .bool n3, .string s3, .slice A n c, .int .i64 ct] 41)) 41 #[.int .i64 k, .string nm, .bool n0x, .string s0x, .bool n1x, .string s1x, .bool n2x, .string s2x, .bool n3x, .string s3x, .slice Ax nx cx, .int .i64 ctx]
  have hbw := hbx.2.trans (hby.2.mono hbx.2.size)
  clear hbx hby
  go_enter Tryz.func51, Tryz.ntmps51
  go_wp2_with (go_at_call 52; (with_reducible refine (HS.out _ ?_).mono ?_); (first | exact hbw | skip); rintro _ _ ⟨d, rfl, rfl⟩)
  go_ret
  exact ⟨rfl, ⟨hbw.os, hbw.tape, hbw.output, hbw.size, hbw.block⟩⟩
set_option maxRecDepth 100000 in
set_option maxHeartbeats 2000000 in
theorem fsame_4 {w : World} {B : Nat} {k ct : Int} {nm : ByteArray} {n0 n1 n2 n3 : Bool} {s0 s1 s2 s3 : ByteArray} {A : Option Addr} {n c : Nat} {l : List Int} {kx ctx : Int} {nmx : ByteArray} {n0x n1x n2x n3x : Bool} {s0x s1x s2x s3x : ByteArray} {Ax : Option Addr} {nx cx : Nat} {lx : List Int} (hr : ReadsI w B A l) (hrx : ReadsI w B Ax lx) (hB : B ≤ w.heap.size) (hn : n = l.length) (hnx : nx = lx.length) (hnl : n ≤ 1000000000) (hnlx : nx ≤ 1000000000) (e0 : k = kx) (e1 : nm = nmx) (e2 : (n0 = n0x ∧ s0 = s0x ∧ n1 = n1x ∧ s1 = s1x ∧ n2 = n2x ∧ s2 = s2x ∧ n3 = n3x ∧ s3 = s3x)) (e3 : l = lx) (e4 : ¬ ct = ctx) :
    Calls Tryz.prog 51 #[.agg #[.int .i64 k, .string nm, .bool n0, .string s0, .bool n1, .string s1, .bool n2, .string s2, .bool n3, .string s3, .slice A n c, .int .i64 ct], .agg #[.int .i64 kx, .string nmx, .bool n0x, .string s0x, .bool n1x, .string s1x, .bool n2x, .string s2x, .bool n3x, .string s3x, .slice Ax nx cx, .int .i64 ctx]] w (fun e w' => e = .returned (.bool false) ∧ Below w.heap.size w w') := by
  have HS : Hid (∀ W, Below w.heap.size w W → Calls Tryz.prog 52 #[.slice A n c, .slice Ax nx cx] W (fun e w' => ∃ d, e = .returned (.bool true) ∧ W.drewN d = w')) := Lib.hid fun W hb => (equal_any ((hr.more hB).below hb) ((hrx.more hB).below hb) hn hnx hnl hnlx).mono fun e w' ⟨d, h1, h2⟩ => ⟨d, by rw [h1, decide_eq_true e3], h2⟩
  clear e3
  clear hr hrx hn hnx hnl hnlx
  subst e0
  subst e1
  have hzq := fun W => eql_gs n0 n0x n1 n1x n2 n2x n3 n3x s0 s0x s1 s1x s2 s2x s3 s3x W
  rw [decide_eq_true e2] at hzq
  clear e2
  have e4b : (ct == ctx) = false := by simpa using e4
  have hbx := Box.new w 41 #[.int .i64 k, .string nm, .bool n0, .string s0, .bool n1, .string s1, .bool n2, .string s2, .bool n3, .string s3, .slice A n c, .int .i64 ct]
  have hby := Box.new (w.alloc (.cells #[.int .i64 k, .string nm, .bool n0, .string s0, .bool n1, .string s1, .bool n2, .string s2, .bool n3, .string s3, .slice A n c, .int .i64 ct] 41)) 41 #[.int .i64 k, .string nm, .bool n0x, .string s0x, .bool n1x, .string s1x, .bool n2x, .string s2x, .bool n3x, .string s3x, .slice Ax nx cx, .int .i64 ctx]
  have hbw := hbx.2.trans (hby.2.mono hbx.2.size)
  clear hbx hby
  go_enter Tryz.func51, Tryz.ntmps51
  go_wp2_with (go_at_call 52; (with_reducible refine (HS.out _ ?_).mono ?_); (first | exact hbw | skip); rintro _ _ ⟨d, rfl, rfl⟩)
  go_ret
  exact ⟨rfl, ⟨hbw.os, hbw.tape, hbw.output, hbw.size, hbw.block⟩⟩
set_option maxRecDepth 100000 in
set_option maxHeartbeats 2000000 in
theorem fsame_5 {w : World} {B : Nat} {k ct : Int} {nm : ByteArray} {n0 n1 n2 n3 : Bool} {s0 s1 s2 s3 : ByteArray} {A : Option Addr} {n c : Nat} {l : List Int} {kx ctx : Int} {nmx : ByteArray} {n0x n1x n2x n3x : Bool} {s0x s1x s2x s3x : ByteArray} {Ax : Option Addr} {nx cx : Nat} {lx : List Int} (hr : ReadsI w B A l) (hrx : ReadsI w B Ax lx) (hB : B ≤ w.heap.size) (hn : n = l.length) (hnx : nx = lx.length) (hnl : n ≤ 1000000000) (hnlx : nx ≤ 1000000000) (e0 : k = kx) (e1 : nm = nmx) (e2 : (n0 = n0x ∧ s0 = s0x ∧ n1 = n1x ∧ s1 = s1x ∧ n2 = n2x ∧ s2 = s2x ∧ n3 = n3x ∧ s3 = s3x)) (e3 : l = lx) (e4 : ct = ctx) :
    Calls Tryz.prog 51 #[.agg #[.int .i64 k, .string nm, .bool n0, .string s0, .bool n1, .string s1, .bool n2, .string s2, .bool n3, .string s3, .slice A n c, .int .i64 ct], .agg #[.int .i64 kx, .string nmx, .bool n0x, .string s0x, .bool n1x, .string s1x, .bool n2x, .string s2x, .bool n3x, .string s3x, .slice Ax nx cx, .int .i64 ctx]] w (fun e w' => e = .returned (.bool true) ∧ Below w.heap.size w w') := by
  have HS : Hid (∀ W, Below w.heap.size w W → Calls Tryz.prog 52 #[.slice A n c, .slice Ax nx cx] W (fun e w' => ∃ d, e = .returned (.bool true) ∧ W.drewN d = w')) := Lib.hid fun W hb => (equal_any ((hr.more hB).below hb) ((hrx.more hB).below hb) hn hnx hnl hnlx).mono fun e w' ⟨d, h1, h2⟩ => ⟨d, by rw [h1, decide_eq_true e3], h2⟩
  clear e3
  clear hr hrx hn hnx hnl hnlx
  subst e0
  subst e1
  have hzq := fun W => eql_gs n0 n0x n1 n1x n2 n2x n3 n3x s0 s0x s1 s1x s2 s2x s3 s3x W
  rw [decide_eq_true e2] at hzq
  clear e2
  subst e4
  have hbx := Box.new w 41 #[.int .i64 k, .string nm, .bool n0, .string s0, .bool n1, .string s1, .bool n2, .string s2, .bool n3, .string s3, .slice A n c, .int .i64 ct]
  have hby := Box.new (w.alloc (.cells #[.int .i64 k, .string nm, .bool n0, .string s0, .bool n1, .string s1, .bool n2, .string s2, .bool n3, .string s3, .slice A n c, .int .i64 ct] 41)) 41 #[.int .i64 k, .string nm, .bool n0x, .string s0x, .bool n1x, .string s1x, .bool n2x, .string s2x, .bool n3x, .string s3x, .slice Ax nx cx, .int .i64 ct]
  have hbw := hbx.2.trans (hby.2.mono hbx.2.size)
  clear hbx hby
  go_enter Tryz.func51, Tryz.ntmps51
  go_wp2_with (go_at_call 52; (with_reducible refine (HS.out _ ?_).mono ?_); (first | exact hbw | skip); rintro _ _ ⟨d, rfl, rfl⟩)
  go_ret
  exact ⟨rfl, ⟨hbw.os, hbw.tape, hbw.output, hbw.size, hbw.block⟩⟩

theorem fsame_any {w : World} {B : Nat} {r q : ARow} (hr : ArgR w B r) (hq : ArgR w B q) (hB : B ≤ w.heap.size) (hrl : r.2.2.wd.length ≤ 1000000000) (hql : q.2.2.wd.length ≤ 1000000000) {b : Bool} (hb : b = true ↔ r.2.2 = q.2.2) :
    Calls Tryz.prog 51 #[argV r, argV q] w (fun e w' => e = .returned (.bool b) ∧ Below w.heap.size w w') := by
  obtain ⟨A, c, k, nm, n0, s0, n1, s1, n2, s2, n3, s3, l, ct⟩ := r
  obtain ⟨Ax, cx, kx, nmx, n0x, s0x, n1x, s1x, n2x, s2x, n3x, s3x, lx, ctx⟩ := q
  have h1 := hr.wd
  have h2 := hq.wd
  by_cases e0 : k = kx
  · by_cases e1 : nm = nmx
    · by_cases e2 : (n0 = n0x ∧ s0 = s0x ∧ n1 = n1x ∧ s1 = s1x ∧ n2 = n2x ∧ s2 = s2x ∧ n3 = n3x ∧ s3 = s3x)
      · by_cases e3 : l = lx
        · by_cases e4 : ct = ctx
          · rw [hb.2 (by obtain ⟨a1, a2, a3, a4, a5, a6, a7, a8⟩ := e2; subst e0 e1 e3 e4 a1 a2 a3 a4 a5 a6 a7 a8; rfl)]
            exact fsame_5 h1 h2 hB rfl rfl hrl hql e0 e1 e2 e3 e4
          · rw [no_b hb fun h => e4 (congrArg ArgP.ct h)]; exact fsame_4 h1 h2 hB rfl rfl hrl hql e0 e1 e2 e3 e4
        · rw [no_b hb fun h => e3 (congrArg ArgP.wd h)]; exact fsame_3 h1 h2 hB rfl rfl hrl hql e0 e1 e2 e3
      · rw [no_b hb fun h => e2 (by injection h; exact ⟨‹_›, ‹_›, ‹_›, ‹_›, ‹_›, ‹_›, ‹_›, ‹_›⟩)]; exact fsame_2 h1 h2 hB rfl rfl hrl hql e0 e1 e2
    · rw [no_b hb fun h => e1 (congrArg ArgP.nm h)]; exact fsame_1 h1 h2 hB rfl rfl hrl hql e0 e1
  · rw [no_b hb fun h => e0 (congrArg ArgP.k h)]; exact fsame_0 h1 h2 hB rfl rfl hrl hql e0
end Go.Proofs.YtebpggfccljagaaGreatDoor

/- slices.EqualFunc, script.Same (printed by gen_eqf.py). -/
namespace Go.Proofs.YtebpggfccljagaaGreatDoor
open Go.RowKit
open Wh
set_option linter.unusedSimpArgs false
set_option linter.unusedVariables false

/-- the function that Same hands on -/
def sameFn : Value := .func (.func 51) #[] #[]
set_option maxRecDepth 100000 in
set_option maxHeartbeats 2000000 in
theorem eqf_len {w : World} {A Ax : Option Addr} {n c nx cx : Nat} (e2 : ¬ n = nx) :
    Calls Tryz.prog 53 #[.slice A n c, .slice Ax nx cx, sameFn] w (fun e w' => e = .returned (.bool false) ∧ Below w.heap.size w w') := by
  have e0b : ((n : Int) != (nx : Int)) = true := by simp; omega
  have e0c : ¬ (n : Int) = (nx : Int) := by omega
  go_enter Tryz.func53, Tryz.ntmps53
  go_wp2_with fail
  go_ret
  exact ⟨rfl, Below.refl _ _⟩
set_option maxRecDepth 100000 in
set_option maxHeartbeats 4000000 in
theorem eqf_all {w : World} {B : Nat} {A Ax : Option Addr} {n c cx : Nat} {rs qs : List ARow} (hr : ReadsA w B A rs) (hq : ReadsA w B Ax qs) (hB : B ≤ w.heap.size) (hn : n = rs.length) (hnx : n = qs.length) (hnl : n ≤ 1000000) (hf : ∀ r ∈ rs, r.2.2.fit) (hfx : ∀ r ∈ qs, r.2.2.fit) {b : Bool} (hb : b = true ↔ rs.map (fun r => r.2.2) = qs.map (fun r => r.2.2)) :
    Calls Tryz.prog 53 #[.slice A n c, .slice Ax n cx, sameFn] w (fun e w' => e = .returned (.bool b) ∧ Below w.heap.size w w') := by
  have Hr := Lib.hid (hr.more hB)
  have Hq := Lib.hid (hq.more hB)
  have Hn := Lib.hid hn
  have Hnx := Lib.hid hnx
  have Hf := Lib.hid hf
  have Hfx := Lib.hid hfx
  have Hb := Lib.hid hb
  clear hr hq hB hn hnx hf hfx hb
  have hbe : ((n : Int) == (n : Int)) = true := by simp
  have hbe2 : ((n : Int) != (n : Int)) = false := by simp
  unfold sameFn
  go_enter Tryz.func53, Tryz.ntmps53
  go_wp2_with fail
  go_loopg [17] n (fun k iv wr => ∃ (i : Nat), iv = .int .i64 (i : Int) ∧ k = n - i ∧ i ≤ n ∧ Hid ((rs.take i).map (fun r => r.2.2) = (qs.take i).map (fun r => r.2.2)) ∧ Hid (Below w.heap.size w wr))
  case atStart => exact ⟨0, rfl, by omega, by omega, Lib.hid rfl, Lib.hid (Below.refl _ _)⟩
  case round =>
    obtain ⟨i, rfl, hk, hi, htk, hO⟩ := hrel
    have Hk := Lib.hid hk
    clear hk
    by_cases hin : i < n
    · have hil : i < rs.length := by rw [← Hn.out]; omega
      have hjl : i < qs.length := by rw [← Hnx.out]; omega
      obtain ⟨ad, rfl, hb1, ⟨c0, c1, c2, c3, c4, c5, c6, c7, c8, c9, c10, c11⟩, ha⟩ := (Hr.out.below hO.out).cells hil
      have HY := Lib.hid (Hq.out.below hO.out)
      obtain ⟨u, hu⟩ := ex_b (rs[i].2.2 = qs[i].2.2)
      have HM := Lib.hid (fun W (hb : Below w.heap.size w W) => fsame_any (w := W) ((Hr.out.2 _ (List.getElem_mem hil)).below hb) ((Hq.out.2 _ (List.getElem_mem hjl)).below hb) hb.size (Nat.le_trans (Hf.out _ (List.getElem_mem hil)).wd (by decide)) (Nat.le_trans (Hfx.out _ (List.getElem_mem hjl)).wd (by decide)) hu)
      have hii : (i : Int) < (n : Int) := by omega
      have Hnext := Lib.hid (fun h => take_stepA hil hjl htk.out (hu.1 h))
      have Hno := Lib.hid (fun (h : u = false) => show b = false from no_b Hb.out fun h2 => by rw [hu.2 (map_getA hil hjl h2)] at h; cases h)
      have hox := hO.out
      have hoa := fun (o : Obj) => hox.alloc hox.size o
      obtain ⟨ad2, rfl, hb3, ⟨d0, d1, d2, d3, d4, d5, d6, d7, d8, d9, d10, d11⟩, hax⟩ := (Hq.out.below (hoa (.cells (acs rs[i]).toArray 41))).cells hjl
      clear ha hax hb1 hb3 hu
      have Hox := Lib.hid hox
      have hsz := hox.size
      clear hox hoa
      generalize rs[i] = r at *
      generalize qs[i] = q at *
      clear hil hjl
      obtain ⟨A1, c1', x⟩ := r
      obtain ⟨A2, c2', y⟩ := q
      simp only [argV] at HM
      simp only [acs] at c0 c1 c2 c3 c4 c5 c6 c7 c8 c9 c10 c11 d0 d1 d2 d3 d4 d5 d6 d7 d8 d9 d10 d11
      have Hbw := Lib.hid ((Hox.out.alloc hsz (.cells #[.int .i64 x.k, .string x.nm, .bool x.n0, .string x.s0, .bool x.n1, .string x.s1, .bool x.n2, .string x.s2, .bool x.n3, .string x.s3, .slice A1 x.wd.length c1', .int .i64 x.ct] 41)).alloc (by simp; omega) (.cells #[.int .i64 y.k, .string y.nm, .bool y.n0, .string y.s0, .bool y.n1, .string y.s1, .bool y.n2, .string y.s2, .bool y.n3, .string y.s3, .slice A2 y.wd.length c2', .int .i64 y.ct] 41))
      go_wp2_with fail
      refine (HM.out _ Hbw.out).mono ?_
      rintro e W6 ⟨rfl, hb6⟩
      have Hbel := Lib.hid (Hbw.out.trans (hb6.mono Hbw.out.size))
      clear hb6
      cases u
      · have Hbad := Lib.hid (Hno.out rfl)
        go_wp2_with fail
        go_ret
        exact ⟨by rw [Hbad.out]; rfl, Hbel.out⟩
      · have Hn2 := Lib.hid (Hnext.out rfl)
        go_wp2_with fail
        go_roundg (n - (i + 1))
        case measure => have := Hk.out; omega
        case rel => exact ⟨i + 1, rfl, rfl, by omega, Hn2, Hbel⟩
    · have hii : ¬ (i : Int) < (n : Int) := by omega
      have Hall := Lib.hid (Hb.out.2 (by
        have h := htk.out
        rwa [List.take_of_length_le (by have := Hn.out; omega), List.take_of_length_le (by have := Hnx.out; omega)] at h))
      go_wp2_with fail
      go_ret
      exact ⟨by rw [Hall.out]; rfl, hO.out⟩
set_option maxRecDepth 100000 in
theorem sms_0 {w : World} {v nm vx nmx : ByteArray} {A Ax : Option Addr} {n c nx cx : Nat} (e0 : ¬ v = vx) :
    Calls Tryz.prog 18 #[.agg #[.string v, .string nm, .slice A n c], .agg #[.string vx, .string nmx, .slice Ax nx cx]] w (fun e w' => e = .returned (.bool false) ∧ Below w.heap.size w w') := by
  have e0a : ¬ v.toList = vx.toList := fun h => e0 (tl_inj h)
  have e0b : (v.toList == vx.toList) = false := by simpa using e0a
  have hbx := Box.new w 25 #[.string v, .string nm, .slice A n c]
  have hby := Box.new (w.alloc (.cells #[.string v, .string nm, .slice A n c] 25)) 25 #[.string vx, .string nmx, .slice Ax nx cx]
  have hbw := hbx.2.trans (hby.2.mono hbx.2.size)
  clear hbx hby
  go_enter Tryz.func18, Tryz.ntmps18
  go_wp2_with fail
  go_ret
  exact ⟨rfl, hbw⟩
set_option maxRecDepth 100000 in
theorem sms_1 {w : World} {v nm nmx : ByteArray} {A Ax : Option Addr} {n c nx cx : Nat} (e0 : ¬ nm = nmx) :
    Calls Tryz.prog 18 #[.agg #[.string v, .string nm, .slice A n c], .agg #[.string v, .string nmx, .slice Ax nx cx]] w (fun e w' => e = .returned (.bool false) ∧ Below w.heap.size w w') := by
  have e0a : ¬ nm.toList = nmx.toList := fun h => e0 (tl_inj h)
  have e0b : (nm.toList == nmx.toList) = false := by simpa using e0a
  have hbx := Box.new w 25 #[.string v, .string nm, .slice A n c]
  have hby := Box.new (w.alloc (.cells #[.string v, .string nm, .slice A n c] 25)) 25 #[.string v, .string nmx, .slice Ax nx cx]
  have hbw := hbx.2.trans (hby.2.mono hbx.2.size)
  clear hbx hby
  go_enter Tryz.func18, Tryz.ntmps18
  go_wp2_with fail
  go_ret
  exact ⟨rfl, hbw⟩
set_option maxRecDepth 100000 in
theorem sms_2 {w : World} {v nm : ByteArray} {A Ax : Option Addr} {n c nx cx : Nat} {b : Bool} (HS : ∀ W, Below w.heap.size w W → Calls Tryz.prog 53 #[.slice A n c, .slice Ax nx cx, sameFn] W (fun e w' => e = .returned (.bool b) ∧ Below W.heap.size W w')) :
    Calls Tryz.prog 18 #[.agg #[.string v, .string nm, .slice A n c], .agg #[.string v, .string nm, .slice Ax nx cx]] w (fun e w' => e = .returned (.bool b) ∧ Below w.heap.size w w') := by
  unfold sameFn at HS
  have HS := Lib.hid HS
  have hbx := Box.new w 25 #[.string v, .string nm, .slice A n c]
  have hby := Box.new (w.alloc (.cells #[.string v, .string nm, .slice A n c] 25)) 25 #[.string v, .string nm, .slice Ax nx cx]
  have hbw := hbx.2.trans (hby.2.mono hbx.2.size)
  clear hbx hby
  go_enter Tryz.func18, Tryz.ntmps18
  go_wp2_with (go_at_call 53; (with_reducible refine (HS.out _ ?_).mono ?_); (first | exact hbw | skip); rintro _ _ ⟨rfl, hb2⟩; have hbw := hbw.trans (hb2.mono hbw.size))
  go_ret
  exact ⟨rfl, hbw⟩
theorem sms_any {w : World} {B : Nat} {s t : StR} (hr : ReadsA w B s.A s.rs) (hq : ReadsA w B t.A t.rs) (hB : B ≤ w.heap.size) (hf : s.p.fit) (hfx : t.p.fit) {b : Bool} (hb : b = true ↔ s.p = t.p) :
    Calls Tryz.prog 18 #[.agg s.cells, .agg t.cells] w (fun e w' => e = .returned (.bool b) ∧ Below w.heap.size w w') := by
  have hl : s.rs.length ≤ 1000000 := by
    have := hf.len
    unfold StR.p at this
    simpa using this
  have hf1 : ∀ r ∈ s.rs, r.2.2.fit := fun r h => arg_fit hf h
  have hf2 : ∀ r ∈ t.rs, r.2.2.fit := fun r h => arg_fit hfx h
  clear hf hfx
  obtain ⟨v, nm, A, c, rs⟩ := s
  obtain ⟨vx, nmx, Ax, cx, qs⟩ := t
  unfold StR.p at hb
  unfold StR.cells
  simp only [StP.mk.injEq] at hb hl hr hq hf1 hf2 ⊢
  by_cases e0 : v = vx
  · subst e0
    by_cases e1 : nm = nmx
    · subst e1
      refine sms_2 fun W hb2 => ?_
      by_cases e2 : rs.length = qs.length
      · rw [← e2]
        exact eqf_all ((hr.more hB).below hb2) ((hq.more hB).below hb2) hb2.size rfl e2 hl hf1 hf2 (hb.trans ⟨fun h => h.2.2, fun h => ⟨rfl, rfl, h⟩⟩)
      · rw [no_b hb fun h => e2 (by have := congrArg List.length h.2.2; simpa using this)]
        exact eqf_len e2
    · rw [no_b hb fun h => e1 h.2.1]
      exact sms_1 (nmx := nmx) e1
  · rw [no_b hb fun h => e0 h.1]
    exact sms_0 (vx := vx) (nmx := nmx) e0
end Go.Proofs.YtebpggfccljagaaGreatDoor
