import Derived.Shelf.Strings.Builder1
import Derived.Shelf.Strings.Builder2
import Derived.Shelf.Strings.OnBuilder
import Derived.Shelf.Utf8.RuneCount
import Derived.Shelf.Strconv.Itoa0
import Derived.Shelf.Strconv.Itoa1
import Derived.Shelf.LaysM
import Derived.Shelf.Strconv.Itoa2
import Derived.Shelf.Strconv.Itoa3
import Derived.Shelf.Strconv.Itoa4
import Derived.Shelf.Strings.Search1
import Derived.Shelf.Strings.Search2
import Derived.Shelf.Strings.Search3
import Derived.Shelf.Strings.Cut
import Derived.Shelf.Strings.Count
import Derived.Shelf.Strings.Shaped
import Derived.Shelf.Strings.Prefix
import Derived.Shelf.Strings.Split
import Derived.Shelf.Strings.SplitShaped
import Derived.Shelf.Unicode.Decode
import Derived.Shelf.Strings.RuneCount
import Derived.Shelf.Strings.Explode
import Derived.Shelf.Unicode.DecodeSlow
import Derived.Shelf.Unicode.DecodeAny
import Derived.Shelf.Slices.Reverse
import Derived.Shelf.Slices.Cells
import Derived.Test.YtebpggfccljagaaGreatDoorProg
import Derived.Test.YtebpggfccljagaaGreatDoorC6
import Derived.Lib.AppendIntMem
import Derived.Lib.Join
import Derived.Lib.ItoaLen
namespace Go.Proofs
open Go.Shelf
def Tryz.lays156_ren : Go.Shelf.Ren := ⟨fun | 156 => 43 | 165 => 73 | 166 => 58 | 169 => 59 | 240 => 83 | 241 => 96 | 276 => 101 | 277 => 125 | n => n, fun | 31 => 77 | 9 => 9 | 3 => 3 | 4 => 4 | 0 => 0 | 20 => 20 | 72 => 99 | 76 => 102 | 70 => 96 | 37 => 97 | 75 => 101 | 127 => 128 | 164 => 143 | 5 => 5 | 80 => 82 | n => n, fun | n => n⟩
theorem Tryz.lays156 : Go.Proofs.Lays.n156 Tryz.prog Tryz.lays156_ren := {
 mixed := by kernel_rfl
 f156 := Tryz.func43.trans (congrArg some (by kernel_rfl))
 f165 := Tryz.func73.trans (congrArg some (by kernel_rfl))
 f166 := Tryz.func58.trans (congrArg some (by kernel_rfl))
 f169 := Tryz.func59.trans (congrArg some (by kernel_rfl))
 f240 := Tryz.func83.trans (congrArg some (by kernel_rfl))
 f241 := Tryz.func96.trans (congrArg some (by kernel_rfl))
 f276 := Tryz.func101.trans (congrArg some (by kernel_rfl))
 f277 := Tryz.func125.trans (congrArg some (by kernel_rfl))
 t0 := Tryz.underlying0
 a0 := Tryz.isAgg0
 z0 := Tryz.sizeOf0
 v0 := Tryz.zeroValue0
 t3 := Tryz.underlying3
 a3 := Tryz.isAgg3
 z3 := Tryz.sizeOf3
 v3 := Tryz.zeroValue3
 t4 := Tryz.underlying4
 a4 := Tryz.isAgg4
 z4 := Tryz.sizeOf4
 v4 := Tryz.zeroValue4
 t9 := Tryz.underlying9
 a9 := Tryz.isAgg9
 z9 := Tryz.sizeOf9
 v9 := Tryz.zeroValue9
 t20 := Tryz.underlying20
 a20 := Tryz.isAgg20
 z20 := Tryz.sizeOf20
 v20 := Tryz.zeroValue20
 t31 := Tryz.underlying77
 a31 := Tryz.isAgg77
 z31 := Tryz.sizeOf77
 v31 := Tryz.zeroValue77
 t37 := Tryz.underlying97
 a37 := Tryz.isAgg97
 z37 := Tryz.sizeOf97
 v37 := Tryz.zeroValue97
 t70 := Tryz.underlying96
 a70 := Tryz.isAgg96
 z70 := Tryz.sizeOf96
 v70 := Tryz.zeroValue96
 t72 := Tryz.underlying99
 a72 := Tryz.isAgg99
 z72 := Tryz.sizeOf99
 v72 := Tryz.zeroValue99
 t75 := Tryz.underlying101
 a75 := Tryz.isAgg101
 z75 := Tryz.sizeOf101
 v75 := Tryz.zeroValue101
 t76 := Tryz.underlying102
 a76 := Tryz.isAgg102
 z76 := Tryz.sizeOf102
 v76 := Tryz.zeroValue102
 t127 := Tryz.underlying128
 a127 := Tryz.isAgg128
 z127 := Tryz.sizeOf128
 v127 := Tryz.zeroValue128
 t164 := Tryz.underlying143
 a164 := Tryz.isAgg143
 z164 := Tryz.sizeOf143
 v164 := Tryz.zeroValue143 }
theorem Tryz.Builder_Extra_156 : Builder.Extra Tryz.prog Tryz.lays156_ren := {
 sizeBuilder := by kernel_rfl
 liesBuilder := by kernel_rfl
 t5 := Tryz.underlying5
 a5 := Tryz.isAgg5
 z5 := Tryz.sizeOf5
 v5 := Tryz.zeroValue5
 infoByte := by kernel_rfl
 cellsByte := by kernel_rfl
 sizeByte := by kernel_rfl
 neB5 := by decide }
open Go.RowKit in
theorem Tryz.strings_Join_none (a : Option Addr) (c : Nat) (sep : ByteArray) (w : World) :
  Calls Tryz.prog 43 #[.slice a 0 c, .string sep] w fun e w' => e = .returned (.string ⟨#[]⟩) ∧ w' = w := Any.strings_Join_none Tryz.lays156 Tryz.Builder_Extra_156 a c sep w
open Go.RowKit in
theorem Tryz.strings_Join (bk o c : Nat) (xs : List ByteArray) (sep : ByteArray) (w : World) (hcells : ∀ (j : Nat) x, xs[j]? = some x → w.cell? ⟨bk, o + j, none⟩ = some (.string x)) (hbk : bk < w.heap.size) (hN : xs.length ≤ 140737488355328) (hcap : xs.length ≤ c) (hlen : (Lib.join (xs.map (·.data.toList)) sep.data.toList).length ≤ 140737488355328) :
  Calls Tryz.prog 43 #[.slice (some ⟨bk, o, none⟩) xs.length c, .string sep] w fun e w' => e = .returned (.string ⟨(Lib.join (xs.map (·.data.toList)) sep.data.toList).toArray⟩) ∧ Below w.heap.size w w' := Any.strings_Join Tryz.lays156 Tryz.Builder_Extra_156 bk o c xs sep w hcells hbk hN hcap hlen
def Tryz.laysM171_ren : Go.Shelf.Ren := ⟨fun | 171 => 72 | 243 => 95 | 246 => 99 | 283 => 128 | 284 => 129 | 285 => 130 | 286 => 131 | 129 => 154 | 317 => 153 | 318 => 155 | 319 => 156 | 320 => 157 | 337 => 166 | 338 => 167 | n => n, fun | 3 => 3 | 9 => 9 | 2 => 2 | 4 => 4 | 171 => 179 | 0 => 0 | 53 => 161 | 37 => 97 | 5 => 5 | 173 => 182 | 212 => 201 | 51 => 163 | 20 => 20 | 213 => 202 | 46 => 185 | 232 => 221 | 233 => 222 | n => n, fun | 17 => 1 | 18 => 4 | 19 => 5 | n => n⟩
theorem Tryz.laysM171 : Go.Proofs.LaysM.n171 Tryz.prog Tryz.laysM171_ren := {
 mixed := by kernel_rfl
 f129 := Tryz.func154.trans (congrArg some (by kernel_rfl))
 f171 := Tryz.func72.trans (congrArg some (by kernel_rfl))
 f243 := Tryz.func95.trans (congrArg some (by kernel_rfl))
 f246 := Tryz.func99.trans (congrArg some (by kernel_rfl))
 f283 := Tryz.func128.trans (congrArg some (by kernel_rfl))
 f284 := Tryz.func129.trans (congrArg some (by kernel_rfl))
 f285 := Tryz.func130.trans (congrArg some (by kernel_rfl))
 f286 := Tryz.func131.trans (congrArg some (by kernel_rfl))
 f317 := Tryz.func153.trans (congrArg some (by kernel_rfl))
 f318 := Tryz.func155.trans (congrArg some (by kernel_rfl))
 f319 := Tryz.func156.trans (congrArg some (by kernel_rfl))
 f320 := Tryz.func157.trans (congrArg some (by kernel_rfl))
 f337 := Tryz.func166.trans (congrArg some (by kernel_rfl))
 f338 := Tryz.func167.trans (congrArg some (by kernel_rfl))
 t0 := Tryz.underlying0
 a0 := Tryz.isAgg0
 z0 := Tryz.sizeOf0
 v0 := Tryz.zeroValue0
 t2 := Tryz.underlying2
 a2 := Tryz.isAgg2
 z2 := Tryz.sizeOf2
 v2 := Tryz.zeroValue2
 t3 := Tryz.underlying3
 a3 := Tryz.isAgg3
 z3 := Tryz.sizeOf3
 v3 := Tryz.zeroValue3
 t4 := Tryz.underlying4
 a4 := Tryz.isAgg4
 z4 := Tryz.sizeOf4
 v4 := Tryz.zeroValue4
 t5 := Tryz.underlying5
 a5 := Tryz.isAgg5
 z5 := Tryz.sizeOf5
 v5 := Tryz.zeroValue5
 t9 := Tryz.underlying9
 a9 := Tryz.isAgg9
 z9 := Tryz.sizeOf9
 v9 := Tryz.zeroValue9
 t20 := Tryz.underlying20
 a20 := Tryz.isAgg20
 z20 := Tryz.sizeOf20
 v20 := Tryz.zeroValue20
 t37 := Tryz.underlying97
 a37 := Tryz.isAgg97
 z37 := Tryz.sizeOf97
 v37 := Tryz.zeroValue97
 t46 := Tryz.underlying185
 a46 := Tryz.isAgg185
 z46 := Tryz.sizeOf185
 v46 := Tryz.zeroValue185
 t51 := Tryz.underlying163
 a51 := Tryz.isAgg163
 z51 := Tryz.sizeOf163
 v51 := Tryz.zeroValue163
 t53 := Tryz.underlying161
 a53 := Tryz.isAgg161
 z53 := Tryz.sizeOf161
 v53 := Tryz.zeroValue161
 t171 := Tryz.underlying179
 a171 := Tryz.isAgg179
 z171 := Tryz.sizeOf179
 v171 := Tryz.zeroValue179
 t173 := Tryz.underlying182
 a173 := Tryz.isAgg182
 z173 := Tryz.sizeOf182
 v173 := Tryz.zeroValue182
 t212 := Tryz.underlying201
 a212 := Tryz.isAgg201
 z212 := Tryz.sizeOf201
 v212 := Tryz.zeroValue201
 t213 := Tryz.underlying202
 a213 := Tryz.isAgg202
 z213 := Tryz.sizeOf202
 t232 := Tryz.underlying221
 a232 := Tryz.isAgg221
 z232 := Tryz.sizeOf221
 v232 := Tryz.zeroValue221
 t233 := Tryz.underlying222
 a233 := Tryz.isAgg222
 z233 := Tryz.sizeOf222
 v233 := Tryz.zeroValue222
 g17 := by kernel_rfl
 g18 := by kernel_rfl
 g19 := by kernel_rfl
 i0 := by kernel_rfl
 i2 := by kernel_rfl
 i3 := by kernel_rfl
 i4 := by kernel_rfl
 i5 := by kernel_rfl
 i9 := by kernel_rfl
 i20 := by kernel_rfl
 i37 := by kernel_rfl
 i46 := by kernel_rfl
 i51 := by kernel_rfl
 i53 := by kernel_rfl
 i171 := by kernel_rfl
 i173 := by kernel_rfl
 i212 := by kernel_rfl
 i232 := by kernel_rfl
 i233 := by kernel_rfl
 m17 := by kernel_rfl
 m18 := by kernel_rfl
 m19 := by kernel_rfl }
open Go.RowKit Go.Sort Go.Lib in
theorem Tryz.strconv_Itoa (n : Int) (h0 : -9223372036854775808 ≤ n) (h1 : n ≤ 9223372036854775807) (w : World) (htab : Lib.TabIs Tryz.prog w "internal/strconv.uint64pow10" .u64 Lib.pow10Tab) :
  Calls Tryz.prog 72 #[.int .i64 n] w fun e w' => e = .returned (.string ⟨(Lib.itoa n).toArray⟩) ∧ ∃ k os, w' = grow (w.drewN k) os := Any.strconv_Itoa Tryz.laysM171 n h0 h1 w htab
def Tryz.laysM173_ren : Go.Shelf.Ren := ⟨fun | 173 => 75 | 246 => 99 | 283 => 128 | 284 => 129 | 285 => 130 | 286 => 131 | 129 => 154 | 317 => 153 | 318 => 155 | 319 => 156 | 320 => 157 | 337 => 166 | 338 => 167 | n => n, fun | 2 => 2 | 3 => 3 | 9 => 9 | 4 => 4 | 171 => 179 | 0 => 0 | 53 => 161 | 37 => 97 | 5 => 5 | 173 => 182 | 212 => 201 | 51 => 163 | 20 => 20 | 213 => 202 | 46 => 185 | 232 => 221 | 233 => 222 | n => n, fun | 17 => 1 | 18 => 4 | 19 => 5 | n => n⟩
theorem Tryz.laysM173 : Go.Proofs.LaysM.n173 Tryz.prog Tryz.laysM173_ren := {
 mixed := by kernel_rfl
 f129 := Tryz.func154.trans (congrArg some (by kernel_rfl))
 f173 := Tryz.func75.trans (congrArg some (by kernel_rfl))
 f246 := Tryz.func99.trans (congrArg some (by kernel_rfl))
 f283 := Tryz.func128.trans (congrArg some (by kernel_rfl))
 f284 := Tryz.func129.trans (congrArg some (by kernel_rfl))
 f285 := Tryz.func130.trans (congrArg some (by kernel_rfl))
 f286 := Tryz.func131.trans (congrArg some (by kernel_rfl))
 f317 := Tryz.func153.trans (congrArg some (by kernel_rfl))
 f318 := Tryz.func155.trans (congrArg some (by kernel_rfl))
 f319 := Tryz.func156.trans (congrArg some (by kernel_rfl))
 f320 := Tryz.func157.trans (congrArg some (by kernel_rfl))
 f337 := Tryz.func166.trans (congrArg some (by kernel_rfl))
 f338 := Tryz.func167.trans (congrArg some (by kernel_rfl))
 t0 := Tryz.underlying0
 a0 := Tryz.isAgg0
 z0 := Tryz.sizeOf0
 v0 := Tryz.zeroValue0
 t2 := Tryz.underlying2
 a2 := Tryz.isAgg2
 z2 := Tryz.sizeOf2
 v2 := Tryz.zeroValue2
 t3 := Tryz.underlying3
 a3 := Tryz.isAgg3
 z3 := Tryz.sizeOf3
 v3 := Tryz.zeroValue3
 t4 := Tryz.underlying4
 a4 := Tryz.isAgg4
 z4 := Tryz.sizeOf4
 v4 := Tryz.zeroValue4
 t5 := Tryz.underlying5
 a5 := Tryz.isAgg5
 z5 := Tryz.sizeOf5
 v5 := Tryz.zeroValue5
 t9 := Tryz.underlying9
 a9 := Tryz.isAgg9
 z9 := Tryz.sizeOf9
 v9 := Tryz.zeroValue9
 t20 := Tryz.underlying20
 a20 := Tryz.isAgg20
 z20 := Tryz.sizeOf20
 v20 := Tryz.zeroValue20
 t37 := Tryz.underlying97
 a37 := Tryz.isAgg97
 z37 := Tryz.sizeOf97
 v37 := Tryz.zeroValue97
 t46 := Tryz.underlying185
 a46 := Tryz.isAgg185
 z46 := Tryz.sizeOf185
 v46 := Tryz.zeroValue185
 t51 := Tryz.underlying163
 a51 := Tryz.isAgg163
 z51 := Tryz.sizeOf163
 v51 := Tryz.zeroValue163
 t53 := Tryz.underlying161
 a53 := Tryz.isAgg161
 z53 := Tryz.sizeOf161
 v53 := Tryz.zeroValue161
 t171 := Tryz.underlying179
 a171 := Tryz.isAgg179
 z171 := Tryz.sizeOf179
 v171 := Tryz.zeroValue179
 t173 := Tryz.underlying182
 a173 := Tryz.isAgg182
 z173 := Tryz.sizeOf182
 v173 := Tryz.zeroValue182
 t212 := Tryz.underlying201
 a212 := Tryz.isAgg201
 z212 := Tryz.sizeOf201
 v212 := Tryz.zeroValue201
 t213 := Tryz.underlying202
 a213 := Tryz.isAgg202
 z213 := Tryz.sizeOf202
 t232 := Tryz.underlying221
 a232 := Tryz.isAgg221
 z232 := Tryz.sizeOf221
 v232 := Tryz.zeroValue221
 t233 := Tryz.underlying222
 a233 := Tryz.isAgg222
 z233 := Tryz.sizeOf222
 v233 := Tryz.zeroValue222
 g17 := by kernel_rfl
 g18 := by kernel_rfl
 g19 := by kernel_rfl
 i0 := by kernel_rfl
 i2 := by kernel_rfl
 i3 := by kernel_rfl
 i4 := by kernel_rfl
 i5 := by kernel_rfl
 i9 := by kernel_rfl
 i20 := by kernel_rfl
 i37 := by kernel_rfl
 i46 := by kernel_rfl
 i51 := by kernel_rfl
 i53 := by kernel_rfl
 i171 := by kernel_rfl
 i173 := by kernel_rfl
 i212 := by kernel_rfl
 i232 := by kernel_rfl
 i233 := by kernel_rfl
 m17 := by kernel_rfl
 m18 := by kernel_rfl
 m19 := by kernel_rfl }
open Go.RowKit Go.Sort Go.Lib in
theorem Tryz.strconv_FormatInt_10 (n : Int) (h0 : -9223372036854775808 ≤ n) (h1 : n ≤ 9223372036854775807) (w : World) (htab : Lib.TabIs Tryz.prog w "internal/strconv.uint64pow10" .u64 Lib.pow10Tab) :
  Calls Tryz.prog 75 #[.int .i64 n, .int .i64 10] w fun e w' => e = .returned (.string ⟨(Lib.itoa n).toArray⟩) ∧ ∃ k os, w' = grow (w.drewN k) os := Any.strconv_FormatInt_10 Tryz.laysM173 n h0 h1 w htab
def Tryz.lays145_ren : Go.Shelf.Ren := ⟨fun | 145 => 57 | 220 => 82 | 219 => 100 | 217 => 132 | 225 => 133 | 224 => 134 | 267 => 135 | 266 => 158 | 314 => 159 | n => n, fun | 9 => 9 | 4 => 4 | 59 => 94 | 3 => 3 | 5 => 5 | 46 => 185 | 146 => 204 | 51 => 163 | n => n, fun | 1 => 0 | n => n⟩
theorem Tryz.lays145 : Go.Proofs.Lays.n145 Tryz.prog Tryz.lays145_ren := {
 mixed := by kernel_rfl
 f145 := Tryz.func57.trans (congrArg some (by kernel_rfl))
 f217 := Tryz.func132.trans (congrArg some (by kernel_rfl))
 f219 := Tryz.func100.trans (congrArg some (by kernel_rfl))
 f220 := Tryz.func82.trans (congrArg some (by kernel_rfl))
 f224 := Tryz.func134.trans (congrArg some (by kernel_rfl))
 f225 := Tryz.func133.trans (congrArg some (by kernel_rfl))
 f266 := Tryz.func158.trans (congrArg some (by kernel_rfl))
 f267 := Tryz.func135.trans (congrArg some (by kernel_rfl))
 f314 := Tryz.func159.trans (congrArg some (by kernel_rfl))
 t3 := Tryz.underlying3
 a3 := Tryz.isAgg3
 z3 := Tryz.sizeOf3
 v3 := Tryz.zeroValue3
 t4 := Tryz.underlying4
 a4 := Tryz.isAgg4
 z4 := Tryz.sizeOf4
 v4 := Tryz.zeroValue4
 t5 := Tryz.underlying5
 a5 := Tryz.isAgg5
 z5 := Tryz.sizeOf5
 v5 := Tryz.zeroValue5
 t9 := Tryz.underlying9
 a9 := Tryz.isAgg9
 z9 := Tryz.sizeOf9
 v9 := Tryz.zeroValue9
 t46 := Tryz.underlying185
 a46 := Tryz.isAgg185
 z46 := Tryz.sizeOf185
 v46 := Tryz.zeroValue185
 t51 := Tryz.underlying163
 a51 := Tryz.isAgg163
 z51 := Tryz.sizeOf163
 v51 := Tryz.zeroValue163
 t59 := Tryz.underlying94
 a59 := Tryz.isAgg94
 z59 := Tryz.sizeOf94
 v59 := Tryz.zeroValue94
 t146 := Tryz.underlying204
 a146 := Tryz.isAgg204
 z146 := Tryz.sizeOf204
 v146 := Tryz.zeroValue204
 g1 := by kernel_rfl }
open Go.RowKit Go.Lib in
theorem Tryz.strings_Cut (s sep : ByteArray) (m : Int) (w : World) (hs : s.size < 4294967281) (hm : w.cell? ⟨0, 0, none⟩ = some (.int .i64 m)) :
  Calls Tryz.prog 57 #[.string s, .string sep] w fun e w' => e = .returned (.tuple #[.string ⟨(Lib.cut s.data.toList sep.data.toList).1.toArray⟩, .string ⟨(Lib.cut s.data.toList sep.data.toList).2.1.toArray⟩, .bool (Lib.cut s.data.toList sep.data.toList).2.2]) ∧ ∃ n, w' = w.drewN n := Any.strings_Cut Tryz.lays145 s sep m w hs hm
def Tryz.lays138_ren : Go.Shelf.Ren := ⟨fun | 138 => 54 | 195 => 78 | 218 => 79 | 143 => 80 | 219 => 100 | 217 => 132 | 225 => 133 | 224 => 134 | 267 => 135 | 266 => 158 | 314 => 159 | n => n, fun | 9 => 9 | 3 => 3 | 4 => 4 | 5 => 5 | 0 => 0 | 46 => 185 | 146 => 204 | 51 => 163 | n => n, fun | 1 => 0 | n => n⟩
theorem Tryz.lays138 : Go.Proofs.Lays.n138 Tryz.prog Tryz.lays138_ren := {
 mixed := by kernel_rfl
 f138 := Tryz.func54.trans (congrArg some (by kernel_rfl))
 f143 := Tryz.func80.trans (congrArg some (by kernel_rfl))
 f195 := Tryz.func78.trans (congrArg some (by kernel_rfl))
 f217 := Tryz.func132.trans (congrArg some (by kernel_rfl))
 f218 := Tryz.func79.trans (congrArg some (by kernel_rfl))
 f219 := Tryz.func100.trans (congrArg some (by kernel_rfl))
 f224 := Tryz.func134.trans (congrArg some (by kernel_rfl))
 f225 := Tryz.func133.trans (congrArg some (by kernel_rfl))
 f266 := Tryz.func158.trans (congrArg some (by kernel_rfl))
 f267 := Tryz.func135.trans (congrArg some (by kernel_rfl))
 f314 := Tryz.func159.trans (congrArg some (by kernel_rfl))
 t0 := Tryz.underlying0
 a0 := Tryz.isAgg0
 z0 := Tryz.sizeOf0
 v0 := Tryz.zeroValue0
 t3 := Tryz.underlying3
 a3 := Tryz.isAgg3
 z3 := Tryz.sizeOf3
 v3 := Tryz.zeroValue3
 t4 := Tryz.underlying4
 a4 := Tryz.isAgg4
 z4 := Tryz.sizeOf4
 v4 := Tryz.zeroValue4
 t5 := Tryz.underlying5
 a5 := Tryz.isAgg5
 z5 := Tryz.sizeOf5
 v5 := Tryz.zeroValue5
 t9 := Tryz.underlying9
 a9 := Tryz.isAgg9
 z9 := Tryz.sizeOf9
 v9 := Tryz.zeroValue9
 t46 := Tryz.underlying185
 a46 := Tryz.isAgg185
 z46 := Tryz.sizeOf185
 v46 := Tryz.zeroValue185
 t51 := Tryz.underlying163
 a51 := Tryz.isAgg163
 z51 := Tryz.sizeOf163
 v51 := Tryz.zeroValue163
 t146 := Tryz.underlying204
 a146 := Tryz.isAgg204
 z146 := Tryz.sizeOf204
 v146 := Tryz.zeroValue204
 g1 := by kernel_rfl }
open Go.RowKit Go.Lib in
def Tryz.lays99_ren : Go.Shelf.Ren := ⟨fun | 99 => 36 | 206 => 64 | n => n, fun | 9 => 9 | 4 => 4 | 3 => 3 | n => n, fun | n => n⟩
theorem Tryz.lays99 : Go.Proofs.Lays.n99 Tryz.prog Tryz.lays99_ren := {
 mixed := by kernel_rfl
 f99 := Tryz.func36.trans (congrArg some (by kernel_rfl))
 f206 := Tryz.func64.trans (congrArg some (by kernel_rfl))
 t3 := Tryz.underlying3
 a3 := Tryz.isAgg3
 z3 := Tryz.sizeOf3
 v3 := Tryz.zeroValue3
 t4 := Tryz.underlying4
 a4 := Tryz.isAgg4
 z4 := Tryz.sizeOf4
 v4 := Tryz.zeroValue4
 t9 := Tryz.underlying9
 a9 := Tryz.isAgg9
 z9 := Tryz.sizeOf9
 v9 := Tryz.zeroValue9 }
open Go.RowKit Go.Lib in
theorem Tryz.strings_HasPrefix (s p : ByteArray) (w : World) :
  Calls Tryz.prog 36 #[.string s, .string p] w fun e w' => e = .returned (.bool (Lib.hasPrefix s.data.toList p.data.toList)) ∧ w' = w := Any.strings_HasPrefix Tryz.lays99 s p w
def Tryz.lays100_ren : Go.Shelf.Ren := ⟨fun | 100 => 55 | 207 => 81 | n => n, fun | 9 => 9 | 4 => 4 | 3 => 3 | n => n, fun | n => n⟩
theorem Tryz.lays100 : Go.Proofs.Lays.n100 Tryz.prog Tryz.lays100_ren := {
 mixed := by kernel_rfl
 f100 := Tryz.func55.trans (congrArg some (by kernel_rfl))
 f207 := Tryz.func81.trans (congrArg some (by kernel_rfl))
 t3 := Tryz.underlying3
 a3 := Tryz.isAgg3
 z3 := Tryz.sizeOf3
 v3 := Tryz.zeroValue3
 t4 := Tryz.underlying4
 a4 := Tryz.isAgg4
 z4 := Tryz.sizeOf4
 v4 := Tryz.zeroValue4
 t9 := Tryz.underlying9
 a9 := Tryz.isAgg9
 z9 := Tryz.sizeOf9
 v9 := Tryz.zeroValue9 }
open Go.RowKit Go.Lib in
theorem Tryz.strings_HasSuffix (s p : ByteArray) (w : World) (hs : s.size ≤ 9223372036854775807) :
  Calls Tryz.prog 55 #[.string s, .string p] w fun e w' => e = .returned (.bool (Lib.hasSuffix s.data.toList p.data.toList)) ∧ w' = w := Any.strings_HasSuffix Tryz.lays100 s p w hs
open Go.RowKit Go.Lib in
theorem Tryz.strings_Count_any (s sep : ByteArray) (m : Int) (w : World) (hs : s.size < 4294967281) (hm : w.cell? ⟨0, 0, none⟩ = some (.int .i64 m)) (h1 : 1 ≤ sep.size) :
  Calls Tryz.prog 54 #[.string s, .string sep] w fun e w' => e = .returned (.int .i64 (Lib.countB s sep)) ∧ w' = w := Any.strings_Count_any Tryz.lays138 s sep m w hs hm h1
def Tryz.lays146_ren : Go.Shelf.Ren := ⟨fun | 146 => 34 | 221 => 63 | 268 => 84 | 138 => 54 | 143 => 80 | 195 => 78 | 197 => 102 | 218 => 79 | 219 => 100 | 260 => 136 | 217 => 132 | 225 => 133 | 224 => 134 | 267 => 135 | 266 => 158 | 314 => 159 | n => n, fun | 9 => 9 | 31 => 77 | 3 => 3 | 4 => 4 | 0 => 0 | 105 => 145 | 21 => 21 | 5 => 5 | 46 => 185 | 119 => 206 | 139 => 209 | 138 => 208 | 146 => 204 | 51 => 163 | n => n, fun | 1 => 0 | 3 => 2 | 4 => 3 | n => n⟩
theorem Tryz.lays146 : Go.Proofs.Lays.n146 Tryz.prog Tryz.lays146_ren := {
 mixed := by kernel_rfl
 f138 := Tryz.func54.trans (congrArg some (by kernel_rfl))
 f143 := Tryz.func80.trans (congrArg some (by kernel_rfl))
 f146 := Tryz.func34.trans (congrArg some (by kernel_rfl))
 f195 := Tryz.func78.trans (congrArg some (by kernel_rfl))
 f197 := Tryz.func102.trans (congrArg some (by kernel_rfl))
 f217 := Tryz.func132.trans (congrArg some (by kernel_rfl))
 f218 := Tryz.func79.trans (congrArg some (by kernel_rfl))
 f219 := Tryz.func100.trans (congrArg some (by kernel_rfl))
 f221 := Tryz.func63.trans (congrArg some (by kernel_rfl))
 f224 := Tryz.func134.trans (congrArg some (by kernel_rfl))
 f225 := Tryz.func133.trans (congrArg some (by kernel_rfl))
 f260 := Tryz.func136.trans (congrArg some (by kernel_rfl))
 f266 := Tryz.func158.trans (congrArg some (by kernel_rfl))
 f267 := Tryz.func135.trans (congrArg some (by kernel_rfl))
 f268 := Tryz.func84.trans (congrArg some (by kernel_rfl))
 f314 := Tryz.func159.trans (congrArg some (by kernel_rfl))
 t0 := Tryz.underlying0
 a0 := Tryz.isAgg0
 z0 := Tryz.sizeOf0
 v0 := Tryz.zeroValue0
 t3 := Tryz.underlying3
 a3 := Tryz.isAgg3
 z3 := Tryz.sizeOf3
 v3 := Tryz.zeroValue3
 t4 := Tryz.underlying4
 a4 := Tryz.isAgg4
 z4 := Tryz.sizeOf4
 v4 := Tryz.zeroValue4
 t5 := Tryz.underlying5
 a5 := Tryz.isAgg5
 z5 := Tryz.sizeOf5
 v5 := Tryz.zeroValue5
 t9 := Tryz.underlying9
 a9 := Tryz.isAgg9
 z9 := Tryz.sizeOf9
 v9 := Tryz.zeroValue9
 t21 := Tryz.underlying21
 a21 := Tryz.isAgg21
 z21 := Tryz.sizeOf21
 v21 := Tryz.zeroValue21
 t31 := Tryz.underlying77
 a31 := Tryz.isAgg77
 z31 := Tryz.sizeOf77
 v31 := Tryz.zeroValue77
 t46 := Tryz.underlying185
 a46 := Tryz.isAgg185
 z46 := Tryz.sizeOf185
 v46 := Tryz.zeroValue185
 t51 := Tryz.underlying163
 a51 := Tryz.isAgg163
 z51 := Tryz.sizeOf163
 v51 := Tryz.zeroValue163
 t105 := Tryz.underlying145
 a105 := Tryz.isAgg145
 z105 := Tryz.sizeOf145
 v105 := Tryz.zeroValue145
 t119 := Tryz.underlying206
 a119 := Tryz.isAgg206
 z119 := Tryz.sizeOf206
 t138 := Tryz.underlying208
 a138 := Tryz.isAgg208
 z138 := Tryz.sizeOf208
 v138 := Tryz.zeroValue208
 t139 := Tryz.underlying209
 a139 := Tryz.isAgg209
 z139 := Tryz.sizeOf209
 v139 := Tryz.zeroValue209
 t146 := Tryz.underlying204
 a146 := Tryz.isAgg204
 z146 := Tryz.sizeOf204
 v146 := Tryz.zeroValue204
 g1 := by kernel_rfl
 g3 := by kernel_rfl
 g4 := by kernel_rfl }
open Go.RowKit Go.Lib in
theorem Tryz.strings_Split (s sep : ByteArray) (m : Int) (w : World) (hs : s.size < 4294967281) (hm : w.cell? ⟨0, 0, none⟩ = some (.int .i64 m)) (h1 : 1 ≤ sep.size) :
  Calls Tryz.prog 34 #[.string s, .string sep] w fun e w' =>
   e = .returned (.slice (some ⟨w.heap.size, 0, none⟩) (Lib.countB s sep + 1) (Lib.countB s sep + 1)) ∧ w' = w.alloc (.cells ((Lib.splitB sep 0 (Lib.countB s sep) s).map Value.string).toArray 9) := Any.strings_Split Tryz.lays146 (by kernel_rfl) s sep m w hs hm h1
end Go.Proofs
namespace Go.Proofs.YtebpggfccljagaaGreatDoor
open Go.RowKit
open Wh
set_option linter.unusedSimpArgs false
set_option linter.unusedVariables false
def Tab (B : Nat) (w : World) : Prop := Lib.TabBelow Tryz.prog B w "internal/strconv.uint64pow10" .u64 Lib.pow10Tab
theorem Tab.here {B : Nat} {w : World} (h : Tab B w) : Lib.TabIs Tryz.prog w "internal/strconv.uint64pow10" .u64 Lib.pow10Tab := Lib.TabBelow.here h
theorem Tab.below {B B' : Nat} {w w' : World} (h : Tab B w) (hb : Below B' w w') (hB : B ≤ B') : Tab B w' := fun w2 h2 => h w2 ((hb.mono hB).trans h2)
theorem Tab.more {B B' : Nat} {w : World} (h : Tab B w) (hB : B ≤ B') : Tab B' w := fun w2 h2 => h w2 (h2.mono hB)
def bs (l : List UInt8) : Value := .string ⟨l.toArray⟩
theorem bs_one (l : List (List UInt8)) : ∀ u ∈ l.map bs, u.oneCell' = true := by
 intro u hu
 obtain ⟨b, _, rfl⟩ := List.mem_map.1 hu
 rfl
theorem infoS : (Tryz.prog.info? 9).map (fun i => (i.zero, i.size, i.bytes)) = some (some (.string ⟨#[]⟩), 1, 16) := by kernel_rfl
def OwnS (w : World) (B : Nat) (v : Value) (l : List (List UInt8)) : Prop := w.ownsRow B 9 1 v l.length (l.map bs)
theorem OwnS.form {w : World} {B : Nat} {v : Value} {l : List (List UInt8)} (h : OwnS w B v l) : ∃ A c, v = .slice A l.length c ∧ l.length ≤ c ∧ c ≤ maxLen := by
 rcases h.2 with ⟨rfl, h0⟩ | ⟨g, cap, cur, rfl, _, _, hc, hm, _⟩
 ·exact ⟨none, 0, by rw [h0], by omega, by unfold maxLen; omega⟩
 ·exact ⟨_, cap, rfl, hc, hm⟩
theorem OwnS.alloc {w : World} {B : Nat} {v : Value} {l : List (List UInt8)} (h : OwnS w B v l) (o : Obj) : OwnS (w.alloc o) B v l := World.ownsRow.alloc h o
theorem OwnS.kept {w w' : World} {B : Nat} {v : Value} {l : List (List UInt8)} (h : OwnS w B v l) (hb : Below w.heap.size w w') : OwnS w' B v l := by
 refine ⟨h.1, ?_⟩
 rcases h.2 with h' | ⟨g, cap, cur, hv, hg, hh, r⟩
 ·exact .inl h'
 ·exact .inr ⟨g, cap, cur, hv, hg, (hb.block g (Array.getElem?_eq_some_iff.1 hh).1).trans hh, r⟩
theorem OwnS.lt {w : World} {B : Nat} {v : Value} {l : List (List UInt8)} (h : OwnS w B v l) : ∀ g, v.ownBlock = some g → B ≤ g ∧ g < w.heap.size := fun g hg => World.ownsRow.lt h g hg
theorem reads_singleS (w : World) (x : List UInt8) : Reads (w.alloc (.cells #[bs x] 9)) (w.heap.size + 1) 1 (some ⟨w.heap.size, 0, none⟩) 1 ([x].map bs) := by
 refine ⟨rfl, fun _ => ⟨_, rfl, Nat.lt_succ_self _, fun j u hu => ?_⟩⟩
 have hb := Blk.new w 9 #[bs x]
 match j, hu with
 | 0, hu => rw [Addr.add_zero', hb.cell 0]; exact hu
 | j + 1, hu => simp at hu
theorem wpS_append {w : World} {ops : Array Oper} {rest : List Oper} {o : Oper} {a : Act} {Q : Exit → Act → World → Prop} (hgd : o.guard = none) (s x : Operand)
  (ho : o.op = .call { callee := .builtin .append, args := #[s, x], argTypes := #[77, 77] }) (B : Nat) (v : Value) (l m : List (List UInt8)) (hown : OwnS w B v l) (hs : a.eval s = v)
  {B' : Nat} {A : Option Addr} {k c : Nat} (hx : a.eval x = .slice A k c) (hk : k = m.length) (hr : Reads w B' 1 A m.length (m.map bs)) (hlen : l.length ≤ 1000000000) (hlm : m.length ≤ 1000000000) (hbase : B ≤ w.heap.size)
  (h : ∀ A' n' c' w', OwnS w' B (.slice A' n' c') (l ++ m) → n' = l.length + m.length → n' ≤ c' → w.grownBy w' v.ownBlock → (∀ w0, Below B w0 w → Below B w0 w') → wpList Tryz.prog ops Q rest (a.put o.dst (.slice A' n' c')) w') :
  wpList Tryz.prog ops Q (o :: rest) a w := by
 obtain ⟨i0, hi, hz0, hz1, hz2⟩ := info_parts infoS
 subst hk
 refine wpList_append_any _ hgd s x 77 ho B 9 i0 (.string ⟨#[]⟩) 1 16 Tryz.underlying77 hi hz0 hz1 hz2 rfl (by decide) v l.length (l.map bs) hs hown _ _ m.length c (m.map bs) hx hr (bs_one _) (by unfold maxLen; omega) (by omega) hbase ?_
 intro v' w' h1 h2 h3
 have h4 : OwnS w' B v' (l ++ m) := by
  unfold OwnS
  rw [List.length_append, List.map_append]
  exact h1
 obtain ⟨A', c', rfl, hc', _⟩ := h4.form
 exact h A' _ c' w' h4 (List.length_append ..) hc' h2 (fun w0 hb => hb.grown h2 hbase (fun k hk => (World.ownsRow.lt hown k hk).1))
theorem join_any {w : World} {B n c : Nat} {A : Option Addr} {l : List (List UInt8)} (h : OwnS w B (.slice A n c) l) (h1 : 1 ≤ l.length) (h2 : l.length ≤ 100000) (hs : (Lib.join l [46]).length ≤ 140737488355328) :
  Calls Tryz.prog 43 #[.slice A n c, .string ⟨#[46]⟩] w (fun e w' => e = .returned (bs (Lib.join l [46])) ∧ Below w.heap.size w w') := by
 obtain ⟨A', c', e, hc, hm⟩ := h.form
 injection e with e1 e2 e3
 subst e1 e2 e3
 have h' : w.ownsRow B 9 1 (.slice A l.length c) l.length (l.map bs) := h
 obtain ⟨g, cap, hv, hg1, hg2⟩ := h'.form (by omega)
 injection hv with e1 _ e3
 subst e1 e3
 have hx : ((l.map (fun b => (⟨b.toArray⟩ : ByteArray))).map (·.data.toList)) = l := by
  rw [List.map_map]
  have : ((fun b : ByteArray => b.data.toList) ∘ fun b : List UInt8 => (⟨b.toArray⟩ : ByteArray)) = id := by funext b; rfl
  rw [this, List.map_id]
 have hj := Tryz.strings_Join g 0 c (l.map (fun b => (⟨b.toArray⟩ : ByteArray))) ⟨#[46]⟩ w (fun j x hj => by
  rw [Nat.zero_add]
  have hc := h'.cells (g := g) rfl j (bs x.data.toList) (by
   rw [List.getElem?_map] at hj ⊢
   cases hlj : l[j]? with
   | none => rw [hlj] at hj; cases hj
   | some b => rw [hlj] at hj; injection hj with hj; subst hj; rfl)
  have e : (⟨g, 0, none⟩ : Addr).add j = ⟨g, j, none⟩ := by rw [Addr.add_lit, Nat.zero_add]
  rw [e] at hc
  exact hc) hg2 (by rw [List.length_map]; omega) (by rw [List.length_map]; exact hc) (by rw [hx]; exact hs)
 rw [hx, List.length_map] at hj
 exact hj
theorem join_small (l : List Int) (h : l.length ≤ 100000) (hl : ∀ k ∈ l, -4096 ≤ k ∧ k ≤ 4096) : (Lib.join (l.map Lib.itoa) [46]).length ≤ 140737488355328 := by
 have hs : ∀ (l : List Int), (∀ k ∈ l, -4096 ≤ k ∧ k ≤ 4096) → Lib.lens (l.map Lib.itoa) ≤ 21 * l.length := by
  intro l
  induction l with
  | nil => intro _; exact Nat.le_refl _
  | cons k r ih =>
   intro h
   have h1 := ih (fun x hx => h x (by simp [hx]))
   have h2 := h k (by simp)
   have h3 := Lib.itoa_length_le k (by omega) (by omega)
   have e : Lib.lens (Lib.itoa k :: List.map Lib.itoa r) = (Lib.itoa k).length + Lib.lens (List.map Lib.itoa r) := by simp [Lib.lens]
   rw [List.map_cons, e, List.length_cons]
   omega
 cases l with
 | nil => simp [Lib.join]
 | cons k r =>
  have h1 := hs (k :: r) hl
  rw [List.map_cons] at h1 ⊢
  rw [Lib.join_length, List.length_map]
  simp only [List.length_cons, List.length_nil] at h h1 ⊢
  omega
theorem OwnS.nil (w : World) (B : Nat) : OwnS w B (.slice none 0 0) [] := World.ownsRow_nil w B _ 1
theorem join_all {w : World} {B n c : Nat} {A : Option Addr} {l : List (List UInt8)} (h : OwnS w B (.slice A n c) l) (h2 : l.length ≤ 100000) (hs : (Lib.join l [46]).length ≤ 140737488355328) :
  Calls Tryz.prog 43 #[.slice A n c, .string ⟨#[46]⟩] w (fun e w' => e = .returned (bs (Lib.join l [46])) ∧ Below w.heap.size w w') := by
 rcases Nat.eq_zero_or_pos l.length with h0 | h0
 ·obtain ⟨A', c', e, _⟩ := h.form
  injection e with e1 e2 e3
  rw [e2, h0, List.eq_nil_of_length_eq_zero h0]
  refine (Tryz.strings_Join_none A c ⟨#[46]⟩ w).mono ?_
  rintro e w' ⟨h1, h2⟩
  exact ⟨h1, by rw [h2]; exact Below.refl _ _⟩
 ·exact join_any h h0 h2 hs
def wtx (l : List Int) : List UInt8 := Lib.join (l.map Lib.itoa) [46]
def argT (x : ArgP) : List UInt8 :=
 if x.k = 1 then x.nm.data.toList
 else if x.k = 2 then 40 :: (txtF (num (x.n0, x.s0)) (num (x.n1, x.s1)) ++ [44] ++ txtF (num (x.n2, x.s2)) (num (x.n3, x.s3)) ++ [41])
 else if x.k = 3 then [40, 105, 110, 102, 41]
 else if x.k = 4 then 91 :: (wtx x.wd ++ [93])
 else 35 :: Lib.itoa x.ct
theorem bs_of (s : ByteArray) : bs s.data.toList = .string s := by unfold bs; rfl
theorem bs_sz {t : List UInt8} {m : Nat} (h : t.length ≤ m) : (⟨t.toArray⟩ : ByteArray).size ≤ m := by show t.toArray.size ≤ m; rw [List.size_toArray]; exact h
theorem txtF_len {na nb : Bool} {sa sb : ByteArray} (h : MayFr na sa nb sb) : (txtF (num (na, sa)) (num (nb, sb))).length ≤ 7000 := by
 have h1 := txt_len (n := na) (s := sa)
 have h2 := txt_len (n := nb) (s := sb)
 have h3 := h.al
 have h4 := h.bl
 unfold txtF
 split
 ·omega
 ·rw [List.length_append, List.length_cons]; omega
theorem cat5 (ta tb : ByteArray) (a b : List UInt8) (ha : ta = ⟨a.toArray⟩) (hb : tb = ⟨b.toArray⟩) : (.string (⟨#[40]⟩ ++ ta ++ ⟨#[44]⟩ ++ tb ++ ⟨#[41]⟩) : Value) = bs (40 :: (a ++ [44] ++ b ++ [41])) := by
 subst ha hb
 unfold bs
 congr 1
set_option maxRecDepth 100000 in
set_option maxHeartbeats 4000000 in
theorem told_1 {w : World} {ct : Int} {nm : ByteArray} {n0 n1 n2 n3 : Bool} {s0 s1 s2 s3 : ByteArray} {A : Option Addr} {n c B : Nat}  :
  Calls Tryz.prog 42 #[.agg #[.int .i64 1, .string nm, .bool n0, .string s0, .bool n1, .string s1, .bool n2, .string s2, .bool n3, .string s3, .slice A n c, .int .i64 ct]] w (fun e w' => e = .returned (.string nm) ∧ Below w.heap.size w w') := by
 have hbx := Box.new w 41 #[.int .i64 1, .string nm, .bool n0, .string s0, .bool n1, .string s1, .bool n2, .string s2, .bool n3, .string s3, .slice A n c, .int .i64 ct]
 go_enter Tryz.func42, Tryz.ntmps42
 go_wp2_with fail
 go_ret
 exact ⟨rfl, hbx.2⟩
set_option maxRecDepth 100000 in
set_option maxHeartbeats 4000000 in
theorem told_3 {w : World} {ct : Int} {nm : ByteArray} {n0 n1 n2 n3 : Bool} {s0 s1 s2 s3 : ByteArray} {A : Option Addr} {n c B : Nat}  :
  Calls Tryz.prog 42 #[.agg #[.int .i64 3, .string nm, .bool n0, .string s0, .bool n1, .string s1, .bool n2, .string s2, .bool n3, .string s3, .slice A n c, .int .i64 ct]] w (fun e w' => e = .returned (bs [40, 105, 110, 102, 41]) ∧ Below w.heap.size w w') := by
 have hbx := Box.new w 41 #[.int .i64 3, .string nm, .bool n0, .string s0, .bool n1, .string s1, .bool n2, .string s2, .bool n3, .string s3, .slice A n c, .int .i64 ct]
 go_enter Tryz.func42, Tryz.ntmps42
 go_wp2_with fail
 go_ret
 exact ⟨rfl, hbx.2⟩
set_option maxRecDepth 100000 in
set_option maxHeartbeats 4000000 in
theorem told_5 {w : World} {ct : Int} {nm : ByteArray} {n0 n1 n2 n3 : Bool} {s0 s1 s2 s3 : ByteArray} {A : Option Addr} {n c B : Nat} (ht : Tab B w) (hB : B ≤ w.heap.size) (h0 : 0 ≤ ct) (h1 : ct ≤ 2147483647) :
  Calls Tryz.prog 42 #[.agg #[.int .i64 5, .string nm, .bool n0, .string s0, .bool n1, .string s1, .bool n2, .string s2, .bool n3, .string s3, .slice A n c, .int .i64 ct]] w (fun e w' => e = .returned (bs (35 :: Lib.itoa ct)) ∧ Below w.heap.size w w') := by
 have HI : Hid (∀ W, Below w.heap.size w W → Calls Tryz.prog 72 #[.int .i64 ct] W (fun e w' => e = .returned (bs (Lib.itoa ct)) ∧ Below W.heap.size W w')) := Lib.hid fun W hb => (Tryz.strconv_Itoa ct (by omega) (by omega) W (ht.below hb hB).here).mono fun e w' ⟨e1, k, os, e2⟩ => ⟨e1, by rw [e2]; exact Lib.below_grow _ _ (Nat.le_refl _) _ _⟩
 have hl := Lib.itoa_length_le ct (by omega) (by omega)
 obtain ⟨q, hq⟩ : ∃ q : ByteArray, q = ⟨(Lib.itoa ct).toArray⟩ := ⟨_, rfl⟩
 have hqs : q.size ≤ 100 := by rw [hq]; exact bs_sz (by omega)
 have Hcat := Lib.hid (show (.string (⟨#[35]⟩ ++ q) : Value) = bs (35 :: Lib.itoa ct) by rw [hq]; unfold bs; congr 1)
 unfold bs at HI
 rw [← hq] at HI
 clear ht hl hq h0 h1
 have hbx := Box.new w 41 #[.int .i64 5, .string nm, .bool n0, .string s0, .bool n1, .string s1, .bool n2, .string s2, .bool n3, .string s3, .slice A n c, .int .i64 ct]
 have hbw := hbx.2
 go_enter Tryz.func42, Tryz.ntmps42
 go_wp2_with (go_at_call 72; (with_reducible refine (HI.out _ ?_).mono ?_); (first | exact hbw | skip); rintro _ _ ⟨rfl, hb2⟩; have hbw := hbw.trans (hb2.mono hbw.size))
 go_ret
 exact ⟨by rw [← Hcat.out]; rfl, hbw⟩
set_option maxRecDepth 100000 in
set_option maxHeartbeats 4000000 in
theorem told_2 {w : World} {ct : Int} {nm : ByteArray} {n0 n1 n2 n3 : Bool} {s0 s1 s2 s3 : ByteArray} {A : Option Addr} {n c B : Nat} (hg : MayGs n0 s0 n1 s1 n2 s2 n3 s3) :
  Calls Tryz.prog 42 #[.agg #[.int .i64 2, .string nm, .bool n0, .string s0, .bool n1, .string s1, .bool n2, .string s2, .bool n3, .string s3, .slice A n c, .int .i64 ct]] w (fun e w' => e = .returned (bs (40 :: (txtF (num (n0, s0)) (num (n1, s1)) ++ [44] ++ txtF (num (n2, s2)) (num (n3, s3)) ++ [41]))) ∧ Below w.heap.size w w') := by
 obtain ⟨ta, hta⟩ : ∃ t : ByteArray, t = ⟨(txtF (num (n0, s0)) (num (n1, s1))).toArray⟩ := ⟨_, rfl⟩
 have la : ta.size ≤ 7000 := by rw [hta]; exact bs_sz (txtF_len hg.re)
 have HTa : Hid (∀ W, Calls Tryz.prog 71 #[.agg #[.bool n0, .string s0, .bool n1, .string s1]] W (fun e w' => e = .returned (.tuple #[.string ta, .int .i64 0]) ∧ Below W.heap.size W w')) := Lib.hid fun W => by rw [hta]; exact textf_yes hg.re
 obtain ⟨tb, htb⟩ : ∃ t : ByteArray, t = ⟨(txtF (num (n2, s2)) (num (n3, s3))).toArray⟩ := ⟨_, rfl⟩
 have lb : tb.size ≤ 7000 := by rw [htb]; exact bs_sz (txtF_len hg.im)
 have HTb : Hid (∀ W, Calls Tryz.prog 71 #[.agg #[.bool n2, .string s2, .bool n3, .string s3]] W (fun e w' => e = .returned (.tuple #[.string tb, .int .i64 0]) ∧ Below W.heap.size W w')) := Lib.hid fun W => by rw [htb]; exact textf_yes hg.im
 have Hcat := Lib.hid (cat5 ta tb _ _ hta htb)
 clear hta htb hg
 have hbx := Box.new w 41 #[.int .i64 2, .string nm, .bool n0, .string s0, .bool n1, .string s1, .bool n2, .string s2, .bool n3, .string s3, .slice A n c, .int .i64 ct]
 go_enter Tryz.func42, Tryz.ntmps42
 go_wp2_with (first
   | (go_at_call 71; (with_reducible refine (HTa.out _).mono ?_); rintro _ _ ⟨rfl, hb1⟩; have hbx := hbx.next hb1; have c0 := hbx.1.cell 0; have c1 := hbx.1.cell 1; have c2 := hbx.1.cell 2; have c3 := hbx.1.cell 3; have c4 := hbx.1.cell 4; have c5 := hbx.1.cell 5; have c6 := hbx.1.cell 6; have c7 := hbx.1.cell 7; have c8 := hbx.1.cell 8; have c9 := hbx.1.cell 9; have c10 := hbx.1.cell 10; have c11 := hbx.1.cell 11; clear hb1)
   | (go_at_call 71; (with_reducible refine (HTb.out _).mono ?_); rintro _ _ ⟨rfl, hb1⟩; have hbx := hbx.next hb1; have c0 := hbx.1.cell 0; have c1 := hbx.1.cell 1; have c2 := hbx.1.cell 2; have c3 := hbx.1.cell 3; have c4 := hbx.1.cell 4; have c5 := hbx.1.cell 5; have c6 := hbx.1.cell 6; have c7 := hbx.1.cell 7; have c8 := hbx.1.cell 8; have c9 := hbx.1.cell 9; have c10 := hbx.1.cell 10; have c11 := hbx.1.cell 11; clear hb1))
 go_ret
 exact ⟨by rw [← Hcat.out]; rfl, hbx.2⟩
set_option maxRecDepth 100000 in
set_option maxHeartbeats 4000000 in
theorem rtold_1 {w : World} {ct : Int} {nm : ByteArray} {n0 n1 n2 n3 : Bool} {s0 s1 s2 s3 : ByteArray} {A : Option Addr} {n c B : Nat}  :
  Calls Tryz.prog 44 #[.agg #[.int .i64 1, .string nm, .bool n0, .string s0, .bool n1, .string s1, .bool n2, .string s2, .bool n3, .string s3, .slice A n c, .int .i64 ct]] w (fun e w' => e = .returned (.string nm) ∧ Below w.heap.size w w') := by
 have hbx := Box.new w 41 #[.int .i64 1, .string nm, .bool n0, .string s0, .bool n1, .string s1, .bool n2, .string s2, .bool n3, .string s3, .slice A n c, .int .i64 ct]
 go_enter Tryz.func44, Tryz.ntmps44
 go_wp2_with fail
 go_ret
 exact ⟨rfl, hbx.2⟩
set_option maxRecDepth 100000 in
set_option maxHeartbeats 4000000 in
theorem rtold_3 {w : World} {ct : Int} {nm : ByteArray} {n0 n1 n2 n3 : Bool} {s0 s1 s2 s3 : ByteArray} {A : Option Addr} {n c B : Nat}  :
  Calls Tryz.prog 44 #[.agg #[.int .i64 3, .string nm, .bool n0, .string s0, .bool n1, .string s1, .bool n2, .string s2, .bool n3, .string s3, .slice A n c, .int .i64 ct]] w (fun e w' => e = .returned (bs [40, 105, 110, 102, 41]) ∧ Below w.heap.size w w') := by
 have hbx := Box.new w 41 #[.int .i64 3, .string nm, .bool n0, .string s0, .bool n1, .string s1, .bool n2, .string s2, .bool n3, .string s3, .slice A n c, .int .i64 ct]
 go_enter Tryz.func44, Tryz.ntmps44
 go_wp2_with fail
 go_ret
 exact ⟨rfl, hbx.2⟩
set_option maxRecDepth 100000 in
set_option maxHeartbeats 4000000 in
theorem rtold_5 {w : World} {ct : Int} {nm : ByteArray} {n0 n1 n2 n3 : Bool} {s0 s1 s2 s3 : ByteArray} {A : Option Addr} {n c B : Nat} (ht : Tab B w) (hB : B ≤ w.heap.size) (h0 : 0 ≤ ct) (h1 : ct ≤ 2147483647) :
  Calls Tryz.prog 44 #[.agg #[.int .i64 5, .string nm, .bool n0, .string s0, .bool n1, .string s1, .bool n2, .string s2, .bool n3, .string s3, .slice A n c, .int .i64 ct]] w (fun e w' => e = .returned (bs (35 :: Lib.itoa ct)) ∧ Below w.heap.size w w') := by
 have HI : Hid (∀ W, Below w.heap.size w W → Calls Tryz.prog 75 #[.int .i64 ct, .int .i64 10] W (fun e w' => e = .returned (bs (Lib.itoa ct)) ∧ Below W.heap.size W w')) := Lib.hid fun W hb => (Tryz.strconv_FormatInt_10 ct (by omega) (by omega) W (ht.below hb hB).here).mono fun e w' ⟨e1, k, os, e2⟩ => ⟨e1, by rw [e2]; exact Lib.below_grow _ _ (Nat.le_refl _) _ _⟩
 have hl := Lib.itoa_length_le ct (by omega) (by omega)
 obtain ⟨q, hq⟩ : ∃ q : ByteArray, q = ⟨(Lib.itoa ct).toArray⟩ := ⟨_, rfl⟩
 have hqs : q.size ≤ 100 := by rw [hq]; exact bs_sz (by omega)
 have Hcat := Lib.hid (show (.string (⟨#[35]⟩ ++ q) : Value) = bs (35 :: Lib.itoa ct) by rw [hq]; unfold bs; congr 1)
 unfold bs at HI
 rw [← hq] at HI
 clear ht hl hq h0 h1
 have hbx := Box.new w 41 #[.int .i64 5, .string nm, .bool n0, .string s0, .bool n1, .string s1, .bool n2, .string s2, .bool n3, .string s3, .slice A n c, .int .i64 ct]
 have hbw := hbx.2
 go_enter Tryz.func44, Tryz.ntmps44
 go_wp2_with (go_at_call 75; (with_reducible refine (HI.out _ ?_).mono ?_); (first | exact hbw | skip); rintro _ _ ⟨rfl, hb2⟩; have hbw := hbw.trans (hb2.mono hbw.size))
 go_ret
 exact ⟨by rw [← Hcat.out]; rfl, hbw⟩
set_option maxRecDepth 100000 in
set_option maxHeartbeats 4000000 in
theorem rtold_2 {w : World} {ct : Int} {nm : ByteArray} {n0 n1 n2 n3 : Bool} {s0 s1 s2 s3 : ByteArray} {A : Option Addr} {n c B : Nat} (hg : MayGs n0 s0 n1 s1 n2 s2 n3 s3) :
  Calls Tryz.prog 44 #[.agg #[.int .i64 2, .string nm, .bool n0, .string s0, .bool n1, .string s1, .bool n2, .string s2, .bool n3, .string s3, .slice A n c, .int .i64 ct]] w (fun e w' => e = .returned (bs (40 :: (txtF (num (n0, s0)) (num (n1, s1)) ++ [44] ++ txtF (num (n2, s2)) (num (n3, s3)) ++ [41]))) ∧ Below w.heap.size w w') := by
 obtain ⟨ta, hta⟩ : ∃ t : ByteArray, t = ⟨(txtF (num (n0, s0)) (num (n1, s1))).toArray⟩ := ⟨_, rfl⟩
 have la : ta.size ≤ 7000 := by rw [hta]; exact bs_sz (txtF_len hg.re)
 have HTa : Hid (∀ W, Calls Tryz.prog 74 #[.agg #[.bool n0, .string s0, .bool n1, .string s1]] W (fun e w' => e = .returned (.string ta) ∧ Below W.heap.size W w')) := Lib.hid fun W => by rw [hta]; exact rtextf_yes hg.re
 obtain ⟨tb, htb⟩ : ∃ t : ByteArray, t = ⟨(txtF (num (n2, s2)) (num (n3, s3))).toArray⟩ := ⟨_, rfl⟩
 have lb : tb.size ≤ 7000 := by rw [htb]; exact bs_sz (txtF_len hg.im)
 have HTb : Hid (∀ W, Calls Tryz.prog 74 #[.agg #[.bool n2, .string s2, .bool n3, .string s3]] W (fun e w' => e = .returned (.string tb) ∧ Below W.heap.size W w')) := Lib.hid fun W => by rw [htb]; exact rtextf_yes hg.im
 have Hcat := Lib.hid (cat5 ta tb _ _ hta htb)
 have hs1 : ¬ 9223372036854775807 < 1 + ta.size := by omega
 have hs2 : ¬ 9223372036854775807 < 1 + ta.size + 1 := by omega
 have hs3 : ¬ 9223372036854775807 < 1 + ta.size + 1 + tb.size := by omega
 have hs4 : ¬ 9223372036854775807 < 1 + ta.size + 1 + tb.size + 1 := by omega
 clear hta htb hg
 have hbx := Box.new w 41 #[.int .i64 2, .string nm, .bool n0, .string s0, .bool n1, .string s1, .bool n2, .string s2, .bool n3, .string s3, .slice A n c, .int .i64 ct]
 go_enter Tryz.func44, Tryz.ntmps44
 go_wp2_with fail
 have hsz0 := hbx.1.lt
 go_region_held3 (fun w' => w'.cell? ⟨w.heap.size, 2, none⟩ = some (.bool n0) ∧ w'.cell? ⟨w.heap.size, 3, none⟩ = some (.string s0) ∧ w'.cell? ⟨w.heap.size, 4, none⟩ = some (.bool n1) ∧ w'.cell? ⟨w.heap.size, 5, none⟩ = some (.string s1) ∧ w'.cell? ⟨w.heap.size, 6, none⟩ = some (.bool n2) ∧ w'.cell? ⟨w.heap.size, 7, none⟩ = some (.string s2) ∧ w'.cell? ⟨w.heap.size, 8, none⟩ = some (.bool n3) ∧ w'.cell? ⟨w.heap.size, 9, none⟩ = some (.string s3))
  (first
   | go_keep
   | (rw [hb6.cell (by show w.heap.size < _; simp), hb6.cell (by show w.heap.size < _; simp), hb6.cell (by show w.heap.size < _; simp), hb6.cell (by show w.heap.size < _; simp), hb6.cell (by show w.heap.size < _; simp), hb6.cell (by show w.heap.size < _; simp), hb6.cell (by show w.heap.size < _; simp), hb6.cell (by show w.heap.size < _; simp)]; go_keep)
   | (rw [hb7.cell (by show w.heap.size < _; omega), hb7.cell (by show w.heap.size < _; omega), hb7.cell (by show w.heap.size < _; omega), hb7.cell (by show w.heap.size < _; omega), hb7.cell (by show w.heap.size < _; omega), hb7.cell (by show w.heap.size < _; omega), hb7.cell (by show w.heap.size < _; omega), hb7.cell (by show w.heap.size < _; omega)]; go_keep))
  (first
   | (go_at_call 74; (with_reducible refine (HTa.out _).mono ?_); rintro _ W6 ⟨rfl, hb6⟩; have z6 : w.heap.size < W6.heap.size := (by have := hb6.size; simp at this; omega))
   | (go_at_call 74; (with_reducible refine (HTb.out _).mono ?_); rintro _ W7 ⟨rfl, hb7⟩; have z7 := hb7.size))
 all_goals
  have hbx7 := (hbx.next (Below.drew' hb6)).next hb7
  go_wp2_with fail
  go_ret
  exact ⟨by rw [← Hcat.out]; rfl, hbx7.2⟩
set_option maxRecDepth 100000 in
set_option maxHeartbeats 4000000 in
theorem told_4 {w : World} {ct : Int} {nm : ByteArray} {n0 n1 n2 n3 : Bool} {s0 s1 s2 s3 : ByteArray} {A : Option Addr} {n c B : Nat} {l : List Int} (ht : Tab B w) (hr : ReadsI w B A l) (hB : B ≤ w.heap.size) (hn : n = l.length) (hl : ∀ k ∈ l, -4096 ≤ k ∧ k ≤ 4096) (hnl : n ≤ 4096) :
  Calls Tryz.prog 42 #[.agg #[.int .i64 4, .string nm, .bool n0, .string s0, .bool n1, .string s1, .bool n2, .string s2, .bool n3, .string s3, .slice A n c, .int .i64 ct]] w (fun e w' => e = .returned (bs (91 :: (wtx l ++ [93]))) ∧ Below w.heap.size w w') := by
 have Hn := Lib.hid hn
 have Hl := Lib.hid hl
 have Hr := Lib.hid (hr.more hB)
 have Ht := Lib.hid (ht.more hB)
 clear hr hl hn ht hB
 have hbx := Box.new w 41 #[.int .i64 4, .string nm, .bool n0, .string s0, .bool n1, .string s1, .bool n2, .string s2, .bool n3, .string s3, .slice A n c, .int .i64 ct]
 have Hbx := Lib.hid hbx.2
 clear hbx
 go_enter Tryz.func42, Tryz.ntmps42
 go_wp2_with fail
 go_loopg [7, 45] n (fun k lv iv wr => ∃ (i : Nat) (A' : Option Addr) (n' c' : Nat), lv = .slice A' n' c' ∧ iv = .int .i64 (i : Int) ∧ k = n - i ∧ i ≤ n ∧ Hid (OwnS wr w.heap.size (.slice A' n' c') ((l.take i).map Lib.itoa) ∧ Below w.heap.size w wr))
 case atStart => exact ⟨0, none, 0, 0, rfl, rfl, by omega, by omega, Lib.hid ⟨OwnS.nil _ _, Hbx.out⟩⟩
 case round =>
  obtain ⟨i, A1, n1, c1, rfl, rfl, hk, hi, hO⟩ := hrel
  have Hk := Lib.hid hk
  clear hk
  by_cases hin : i < n
  ·have hil : i < l.length := by rw [← Hn.out]; exact hin
   obtain ⟨ad, rfl, hb1, c0⟩ := (Hr.out.below hO.out.2).at_ hil
   have hlet := Hl.out l[i] (List.getElem_mem hil)
   have Hst := Lib.hid (show (l.take (i + 1)).map Lib.itoa = (l.take i).map Lib.itoa ++ [Lib.itoa l[i]] by rw [List.take_succ_eq_append_getElem hil, List.map_append]; rfl)
   have hii : (i : Int) < (n : Int) := by omega
   generalize l[i] = k at *
   have HI := Lib.hid (Tryz.strconv_Itoa k (by omega) (by omega) wr (Ht.out.below hO.out.2 (Nat.le_refl _)).here)
   generalize Lib.itoa k = q at *
   clear hb1 hil hlet
   go_wp2_with fail
   refine HI.out.mono ?_
   rintro e w2 ⟨rfl, kk, os, hw2⟩
   have hb2 : Below wr.heap.size wr w2 := by rw [hw2]; exact Lib.below_grow _ _ (Nat.le_refl _) _ _
   have Hb2 := Lib.hid hb2
   clear hb2 hw2
   have hsz := hO.out.2.size
   go_wp2_with (refine wpS_append rfl (.tmp 49) (.tmp 52) rfl w.heap.size _ ((l.take i).map Lib.itoa) [q] ((hO.out.1.kept Hb2.out).alloc _) rfl rfl rfl (reads_singleS _ q) (by rw [List.length_map, List.length_take]; omega) (by simp) (by have := Hb2.out.size; simp; omega) ?_; intro A2 n2 c2 w3 ho2 hn2 hc2 hg2 hb3; have Ho2 := Lib.hid (And.intro ho2 (hb3 _ (((hO.out.2.trans (Hb2.out.mono hsz))).alloc (by have := Hb2.out.size; omega) _))); clear ho2 hn2 hc2 hg2 hb3)
   go_roundg (n - (i + 1))
   case measure => have := Hk.out; omega
   case rel => exact ⟨i + 1, A2, n2, c2, rfl, rfl, rfl, by omega, Lib.hid ⟨by rw [Hst.out]; exact Ho2.out.1, Ho2.out.2⟩⟩
  ·have hii : (n : Int) ≤ (i : Int) := by omega
   have hiN : i = n := by omega
   subst hiN
   have ho : OwnS wr w.heap.size (.slice A1 n1 c1) (l.map Lib.itoa) := by
    have h := hO.out.1
    rw [List.take_of_length_le (by have := Hn.out; omega)] at h
    exact h
   have hsm := join_small l (by have := Hn.out; omega) Hl.out
   have HJ := Lib.hid (join_all (A := A1) (n := n1) (c := c1) ho (by have := Hn.out; rw [List.length_map]; omega) hsm)
   obtain ⟨q, hq⟩ : ∃ q : ByteArray, q = ⟨(Lib.join (l.map Lib.itoa) [46]).toArray⟩ := ⟨_, rfl⟩
   have hqs : q.size ≤ 140737488355328 := by rw [hq]; exact bs_sz hsm
   unfold bs at HJ
   rw [← hq] at HJ
   have Hcat := Lib.hid (show (.string (⟨#[91]⟩ ++ q ++ ⟨#[93]⟩) : Value) = bs (91 :: (wtx l ++ [93])) by rw [hq]; unfold bs; congr 1)
   clear ho hsm hq
   go_wp2_with fail
   refine HJ.out.mono ?_
   rintro e w2 ⟨rfl, hb2⟩
   have Hb2 := Lib.hid hb2
   clear hb2
   go_wp2_with fail
   go_ret
   exact ⟨by rw [← Hcat.out]; rfl, hO.out.2.trans (Hb2.out.mono hO.out.2.size)⟩
def wtxTo (l : List Int) (i : Nat) : List UInt8 := Lib.join ((l.take i).map Lib.itoa) [46]
theorem wtxTo_one {l : List Int} (h : 0 < l.length) : wtxTo l 1 = Lib.itoa l[0] := by
 unfold wtxTo
 cases l with
 | nil => simp at h
 | cons x r => simp [Lib.join_one]
theorem wtxTo_succ {l : List Int} {i : Nat} (h : i < l.length) (h1 : 1 ≤ i) : wtxTo l (i + 1) = wtxTo l i ++ [46] ++ Lib.itoa l[i] := by
 cases l with
 | nil => simp at h
 | cons x r =>
  obtain ⟨j, rfl⟩ : ∃ j, i = j + 1 := ⟨i - 1, by omega⟩
  have hj : j < r.length := by simpa using h
  unfold wtxTo
  rw [List.take_succ_cons, List.take_succ_cons, List.map_cons, List.map_cons, Lib.join_cons, Lib.join_cons]
  rw [show (x :: r)[j + 1]'h = r[j]'hj from rfl]
  rw [List.map_take, Lib.joinTail_take_succ [46] (r.map Lib.itoa) j (Lib.itoa r[j]) (by rw [List.getElem?_map, List.getElem?_eq_getElem hj]; rfl), List.map_take]
  simp only [List.append_assoc]
theorem wtxTo_small (l : List Int) (hl : ∀ k ∈ l, -4096 ≤ k ∧ k ≤ 4096) (h : l.length ≤ 100000) (i : Nat) : (wtxTo l i).length ≤ 2200000 := by
 have hs : ∀ (l : List Int), (∀ k ∈ l, -4096 ≤ k ∧ k ≤ 4096) → Lib.lens (l.map Lib.itoa) ≤ 21 * l.length := by
  intro l
  induction l with
  | nil => intro _; exact Nat.le_refl _
  | cons k r ih =>
   intro h
   have h1 := ih (fun x hx => h x (by simp [hx]))
   have h2 := h k (by simp)
   have h3 := Lib.itoa_length_le k (by omega) (by omega)
   have e : Lib.lens (Lib.itoa k :: List.map Lib.itoa r) = (Lib.itoa k).length + Lib.lens (List.map Lib.itoa r) := by simp [Lib.lens]
   rw [List.map_cons, e, List.length_cons]
   omega
 unfold wtxTo
 have hlt : (l.take i).length ≤ 100000 := by rw [List.length_take]; omega
 have hlm : ∀ k ∈ l.take i, -4096 ≤ k ∧ k ≤ 4096 := fun k hk => hl k (List.mem_of_mem_take hk)
 generalize l.take i = m at *
 cases m with
 | nil => simp [Lib.join]
 | cons k r =>
  have h1 := hs (k :: r) hlm
  rw [List.map_cons] at h1 ⊢
  rw [Lib.join_length, List.length_map]
  simp only [List.length_cons, List.length_nil] at hlt h1 ⊢
  omega
set_option maxRecDepth 100000 in
set_option maxHeartbeats 4000000 in
theorem rtold_4 {w : World} {ct : Int} {nm : ByteArray} {n0 n1 n2 n3 : Bool} {s0 s1 s2 s3 : ByteArray} {A : Option Addr} {n c B : Nat} {l : List Int} (ht : Tab B w) (hr : ReadsI w B A l) (hB : B ≤ w.heap.size) (hn : n = l.length) (hl : ∀ k ∈ l, -4096 ≤ k ∧ k ≤ 4096) (hnl : n ≤ 4096) :
  Calls Tryz.prog 44 #[.agg #[.int .i64 4, .string nm, .bool n0, .string s0, .bool n1, .string s1, .bool n2, .string s2, .bool n3, .string s3, .slice A n c, .int .i64 ct]] w (fun e w' => e = .returned (bs (91 :: (wtx l ++ [93]))) ∧ Below w.heap.size w w') := by
 have Hn := Lib.hid hn
 have Hl := Lib.hid hl
 have Hr := Lib.hid (hr.more hB)
 have Ht := Lib.hid (ht.more hB)
 clear hr hl hn ht hB
 have hbx := Box.new w 41 #[.int .i64 4, .string nm, .bool n0, .string s0, .bool n1, .string s1, .bool n2, .string s2, .bool n3, .string s3, .slice A n c, .int .i64 ct]
 have Hbx := Lib.hid hbx
 clear hbx
 go_enter Tryz.func44, Tryz.ntmps44
 go_wp2_with fail
 go_loopg [3, 4] n (fun k sv iv wr => ∃ (i : Nat) (S : ByteArray), sv = .string S ∧ iv = .int .i64 (i : Int) ∧ k = n - i ∧ i ≤ n ∧ S.size ≤ 2200001 ∧ Hid (S = ⟨(91 :: wtxTo l i).toArray⟩) ∧ Hid (Box w wr 41 #[.int .i64 4, .string nm, .bool n0, .string s0, .bool n1, .string s1, .bool n2, .string s2, .bool n3, .string s3, .slice A n c, .int .i64 ct]))
 case atStart => exact ⟨0, ⟨#[91]⟩, rfl, rfl, by omega, by omega, by decide, Lib.hid rfl, Hbx⟩
 case round =>
  obtain ⟨i, S, rfl, rfl, hk, hi, hS, hSe, hO⟩ := hrel
  have Hk := Lib.hid hk
  clear hk
  have c10 := hO.out.1.cell 10
  by_cases hin : i < n
  ·have hil : i < l.length := by rw [← Hn.out]; exact hin
   obtain ⟨ad, rfl, hb1, c1⟩ := (Hr.out.below hO.out.2).at_ hil
   have hlet := Hl.out l[i] (List.getElem_mem hil)
   have HD2 : Hid (Calls Tryz.prog 75 #[.int .i64 l[i], .int .i64 10] wr (fun e w' => e = .returned (bs (Lib.itoa l[i])) ∧ Below wr.heap.size wr w')) := Lib.hid ((Tryz.strconv_FormatInt_10 l[i] (by omega) (by omega) wr (Ht.out.below hO.out.2 (Nat.le_refl _)).here).mono fun e w' ⟨e1, k, os, e2⟩ => ⟨e1, by rw [e2]; exact Lib.below_grow _ _ (Nat.le_refl _) _ _⟩)
   have hit := Lib.itoa_length_le l[i] (by omega) (by omega)
   have hii : (i : Int) < (n : Int) := by omega
   have Hsm := Lib.hid (wtxTo_small l Hl.out (by have := Hn.out; omega) (i + 1))
   rcases Nat.eq_zero_or_pos i with h0 | h0
   ·subst h0
    have Hst := Lib.hid (wtxTo_one hil)
    have Hst0 := Lib.hid (show wtxTo l 0 = [] from rfl)
    rw [Addr.add_zero'] at c1
    generalize l[0] = k at *
    obtain ⟨D, hD⟩ : ∃ D : ByteArray, D = ⟨(Lib.itoa k).toArray⟩ := ⟨_, rfl⟩
    have hDs : D.size ≤ 100 := by rw [hD]; exact bs_sz (by omega)
    unfold bs at HD2
    have Hnew := Lib.hid (show S ++ D = ⟨(91 :: wtxTo l 1).toArray⟩ by
     rw [hSe.out, hD, Hst.out, Hst0.out]
     apply ByteArray.ext
     simp)
    rw [← hD] at HD2
    clear hb1 hil hlet hit hD
    go_wp2_with fail
    refine HD2.out.mono ?_
    rintro e w3 ⟨rfl, hb3⟩
    have Hb3 := Lib.hid hb3
    clear hb3
    go_wp2_with fail
    go_roundg (n - (0 + 1))
    case measure => have := Hk.out; omega
    case rel => exact ⟨1, _, rfl, rfl, rfl, by omega, by rw [Hnew.out]; exact bs_sz (by have := Hsm.out; simp at this ⊢; omega), Lib.hid Hnew.out, Lib.hid (hO.out.next Hb3.out)⟩
   ·have Hst := Lib.hid (wtxTo_succ hil h0)
    have hi0 : (0 : Int) < (i : Int) := by omega
    generalize l[i] = k at *
    obtain ⟨D, hD⟩ : ∃ D : ByteArray, D = ⟨(Lib.itoa k).toArray⟩ := ⟨_, rfl⟩
    have hDs : D.size ≤ 100 := by rw [hD]; exact bs_sz (by omega)
    unfold bs at HD2
    have Hnew := Lib.hid (show S ++ ⟨#[46]⟩ ++ D = ⟨(91 :: wtxTo l (i + 1)).toArray⟩ by
     rw [Hst.out, hSe.out, hD]
     apply ByteArray.ext
     simp)
    rw [← hD] at HD2
    clear hb1 hil hlet hit hD
    go_wp2_with fail
    refine HD2.out.mono ?_
    rintro e w3 ⟨rfl, hb3⟩
    have Hb3 := Lib.hid hb3
    clear hb3
    go_wp2_with fail
    go_roundg (n - (i + 1))
    case measure => have := Hk.out; omega
    case rel => exact ⟨i + 1, _, rfl, rfl, rfl, by omega, by rw [Hnew.out]; exact bs_sz (by have := Hsm.out; simp at this ⊢; omega), Lib.hid Hnew.out, Lib.hid (hO.out.next Hb3.out)⟩
  ·have hii : (n : Int) ≤ (i : Int) := by omega
   have Htx := Lib.hid (show (.string (S ++ ⟨#[93]⟩) : Value) = bs (91 :: (wtx l ++ [93])) by
    rw [hSe.out]
    unfold wtxTo wtx bs
    rw [List.take_of_length_le (by have := Hn.out; omega)]
    congr 1)
   go_wp2_with fail
   go_ret
   exact ⟨by rw [← Htx.out]; rfl, hO.out.2⟩
theorem atold_any {w : World} {B : Nat} {r : ARow} (ht : Tab B w) (h : ArgR w B r) (hB : B ≤ w.heap.size) (hk : r.2.2.ok) :
  Calls Tryz.prog 42 #[argV r] w (fun e w' => e = .returned (bs (argT r.2.2)) ∧ Below w.heap.size w w') := by
 obtain ⟨A, c, k, nm, n0, s0, n1, s1, n2, s2, n3, s3, l, ct⟩ := r
 have hw := h.wd
 unfold ArgP.ok at hk
 unfold argT argV
 simp only at hk hw ⊢
 by_cases h1 : k = 1
 ·subst h1
  rw [if_pos rfl, bs_of]
  exact told_1 (B := B)
 rw [if_neg h1] at hk ⊢
 by_cases h2 : k = 2
 ·subst h2
  rw [if_pos rfl] at hk ⊢
  exact told_2 (B := B) hk.2.1
 rw [if_neg h2] at hk ⊢
 by_cases h3 : k = 3
 ·subst h3
  rw [if_pos rfl]
  exact told_3 (B := B)
 rw [if_neg h3] at hk ⊢
 by_cases h4 : k = 4
 ·subst h4
  rw [if_pos rfl] at hk ⊢
  refine told_4 ht hw hB rfl (fun x hx => ?_) hk.2.2.2.1
  have := List.all_eq_true.1 hk.2.2.1 x hx
  have := of_decide_eq_true this
  omega
 rw [if_neg h4] at hk ⊢
 by_cases h5 : k = 5
 ·subst h5
  rw [if_pos rfl] at hk
  exact told_5 ht hB hk.2.2.2.1 hk.2.2.2.2
 rw [if_neg h5] at hk
 exact hk.elim
theorem ratold_any {w : World} {B : Nat} {r : ARow} (ht : Tab B w) (h : ArgR w B r) (hB : B ≤ w.heap.size) (hk : r.2.2.ok) :
  Calls Tryz.prog 44 #[argV r] w (fun e w' => e = .returned (bs (argT r.2.2)) ∧ Below w.heap.size w w') := by
 obtain ⟨A, c, k, nm, n0, s0, n1, s1, n2, s2, n3, s3, l, ct⟩ := r
 have hw := h.wd
 unfold ArgP.ok at hk
 unfold argT argV
 simp only at hk hw ⊢
 by_cases h1 : k = 1
 ·subst h1
  rw [if_pos rfl, bs_of]
  exact rtold_1 (B := B)
 rw [if_neg h1] at hk ⊢
 by_cases h2 : k = 2
 ·subst h2
  rw [if_pos rfl] at hk ⊢
  exact rtold_2 (B := B) hk.2.1
 rw [if_neg h2] at hk ⊢
 by_cases h3 : k = 3
 ·subst h3
  rw [if_pos rfl]
  exact rtold_3 (B := B)
 rw [if_neg h3] at hk ⊢
 by_cases h4 : k = 4
 ·subst h4
  rw [if_pos rfl] at hk ⊢
  refine rtold_4 ht hw hB rfl (fun x hx => ?_) hk.2.2.2.1
  have := List.all_eq_true.1 hk.2.2.1 x hx
  have := of_decide_eq_true this
  omega
 rw [if_neg h4] at hk ⊢
 by_cases h5 : k = 5
 ·subst h5
  rw [if_pos rfl] at hk
  exact rtold_5 ht hB hk.2.2.2.1 hk.2.2.2.2
 rw [if_neg h5] at hk
 exact hk.elim
theorem ReadsA.cells {w : World} {B : Nat} {A : Option Addr} {rs : List ARow} (h : ReadsA w B A rs) {k : Nat} (hk : k < rs.length) :
  ∃ ad, A = some ad ∧ ad.block < B ∧ (w.cell? (ad.add (k * 12)) = some (.int .i64 rs[k].2.2.k) ∧ w.cell? ⟨(ad.add (k * 12)).block, (ad.add (k * 12)).off + 1, none⟩ = some (.string rs[k].2.2.nm) ∧ w.cell? ⟨(ad.add (k * 12)).block, (ad.add (k * 12)).off + 2, none⟩ = some (.bool rs[k].2.2.n0) ∧ w.cell? ⟨(ad.add (k * 12)).block, (ad.add (k * 12)).off + 3, none⟩ = some (.string rs[k].2.2.s0) ∧ w.cell? ⟨(ad.add (k * 12)).block, (ad.add (k * 12)).off + 4, none⟩ = some (.bool rs[k].2.2.n1) ∧ w.cell? ⟨(ad.add (k * 12)).block, (ad.add (k * 12)).off + 5, none⟩ = some (.string rs[k].2.2.s1) ∧ w.cell? ⟨(ad.add (k * 12)).block, (ad.add (k * 12)).off + 6, none⟩ = some (.bool rs[k].2.2.n2) ∧ w.cell? ⟨(ad.add (k * 12)).block, (ad.add (k * 12)).off + 7, none⟩ = some (.string rs[k].2.2.s2) ∧ w.cell? ⟨(ad.add (k * 12)).block, (ad.add (k * 12)).off + 8, none⟩ = some (.bool rs[k].2.2.n3) ∧ w.cell? ⟨(ad.add (k * 12)).block, (ad.add (k * 12)).off + 9, none⟩ = some (.string rs[k].2.2.s3) ∧ w.cell? ⟨(ad.add (k * 12)).block, (ad.add (k * 12)).off + 10, none⟩ = some (.slice rs[k].1 rs[k].2.2.wd.length rs[k].2.1) ∧ w.cell? ⟨(ad.add (k * 12)).block, (ad.add (k * 12)).off + 11, none⟩ = some (.int .i64 rs[k].2.2.ct)) ∧ ArgR w B rs[k] := by
 obtain ⟨ad, e, hb, hc, ha⟩ := h.at_ hk
 refine ⟨ad, e, hb, ⟨?_, ?_, ?_, ?_, ?_, ?_, ?_, ?_, ?_, ?_, ?_, ?_⟩, ha⟩
 ·exact hc 0 _ (by decide) rfl
 ·exact hc 1 _ (by decide) rfl
 ·exact hc 2 _ (by decide) rfl
 ·exact hc 3 _ (by decide) rfl
 ·exact hc 4 _ (by decide) rfl
 ·exact hc 5 _ (by decide) rfl
 ·exact hc 6 _ (by decide) rfl
 ·exact hc 7 _ (by decide) rfl
 ·exact hc 8 _ (by decide) rfl
 ·exact hc 9 _ (by decide) rfl
 ·exact hc 10 _ (by decide) rfl
 ·exact hc 11 _ (by decide) rfl
structure StR where
 v : ByteArray
 nm : ByteArray
 A : Option Addr
 c : Nat
 rs : List ARow
def StR.cells (s : StR) : Array Value := #[.string s.v, .string s.nm, .slice s.A s.rs.length s.c]
structure StP where
 v : ByteArray
 nm : ByteArray
 xs : List ArgP
def StR.p (s : StR) : StP := ⟨s.v, s.nm, s.rs.map (fun r => r.2.2)⟩
structure ArgP.fit (x : ArgP) : Prop where
 nm : x.nm.size ≤ 1000000
 wd : x.wd.length ≤ 1000000
structure StP.fit (s : StP) : Prop where
 v : s.v.size ≤ 1000000
 nm : s.nm.size ≤ 1000000
 len : s.xs.length ≤ 1000000
 all : ∀ x ∈ s.xs, x.fit
structure StP.ok (s : StP) : Prop where
 v : Sc.lettersB s.v.data.toList = true
 nm : s.nm = ⟨#[]⟩ ∨ Sc.namedB s.nm.data.toList = true
 len : s.xs.length ≤ 64
 all : ∀ x ∈ s.xs, x.ok
theorem ex_b (p : Prop) : ∃ b : Bool, b = true ↔ p := by
 by_cases h : p
 ·exact ⟨true, fun _ => h, fun _ => rfl⟩
 ·exact ⟨false, fun h => (by cases h), fun h' => absurd h' h⟩
theorem all_to {l : List ARow} {i : Nat} {b : Bool} (h : i < l.length) (h0 : ∀ r ∈ l.take i, r.2.2.ok) (hb : b = true ↔ l[i].2.2.ok) : b = true ↔ ∀ r ∈ l.take (i + 1), r.2.2.ok := by
 rw [List.take_succ_eq_append_getElem h, hb]
 constructor
 ·intro h1 r hr
  rcases List.mem_append.1 hr with h2 | h2
  ·exact h0 r h2
  ·rw [List.mem_singleton.1 h2]; exact h1
 ·intro h1
  exact h1 _ (List.mem_append.2 (.inr (by simp)))
theorem arg_fit {s : StR} (h : s.p.fit) {r : ARow} (hr : r ∈ s.rs) : r.2.2.fit := h.all _ (List.mem_map.2 ⟨r, hr, rfl⟩)
theorem st_ok {s : StR} : s.p.ok ↔ (Sc.lettersB s.v.data.toList = true ∧ (s.nm = ⟨#[]⟩ ∨ Sc.namedB s.nm.data.toList = true) ∧ s.rs.length ≤ 64 ∧ ∀ r ∈ s.rs, r.2.2.ok) := by
 constructor
 ·intro h
  refine ⟨h.v, h.nm, ?_, fun r hr => h.all _ (List.mem_map.2 ⟨r, hr, rfl⟩)⟩
  have := h.len
  unfold StR.p at this
  simpa using this
 ·rintro ⟨h1, h2, h3, h4⟩
  refine ⟨h1, h2, by unfold StR.p; simpa using h3, fun x hx => ?_⟩
  obtain ⟨r, hr, rfl⟩ := List.mem_map.1 hx
  exact h4 r hr
set_option maxRecDepth 100000 in
set_option maxHeartbeats 2000000 in
theorem schk_1 {w : World} {v nm : ByteArray} {A : Option Addr} {n c : Nat} (hv : v.size ≤ 9223372036854775807) (hl : Sc.lettersB v.data.toList = false) :
  Calls Tryz.prog 16 #[.agg #[.string v, .string nm, .slice A n c]] w (fun e w' => e = .returned (.int .i64 2) ∧ Below w.heap.size w w') := by
 have HL : Hid (∀ W, Calls Tryz.prog 45 #[.string v] W (fun e w' => e = .returned (.bool false) ∧ W = w')) := Lib.hid fun W => (letters_any v W hv).mono fun e w' h => ⟨by rw [h.1, hl], h.2⟩
 clear hv hl
 have hbx := (Box.new w 25 #[.string v, .string nm, .slice A n c]).2
 go_enter Tryz.func16, Tryz.ntmps16
 go_wp2_with (go_at_call 45; (with_reducible refine (HL.out _).mono ?_); rintro _ _ ⟨rfl, rfl⟩)
 go_loopg [3, 4] 0 (fun k vv iv wr => vv = .bool false ∧ iv = .int .i64 0 ∧ Hid (Below w.heap.size w wr))
 case atStart => exact ⟨(by first | rfl | (simp; omega)), rfl, Lib.hid hbx⟩
 case round =>
  obtain ⟨rfl, rfl, hO⟩ := hrel
  go_wp2_with fail
  go_ret
  exact ⟨rfl, hO.out⟩
set_option maxRecDepth 100000 in
set_option maxHeartbeats 2000000 in
theorem schk_2 {w : World} {v nm : ByteArray} {A : Option Addr} {n c : Nat} (hv : v.size ≤ 9223372036854775807) (hnz : nm.size ≤ 9223372036854775807) (hl : Sc.lettersB v.data.toList = true) (he : nm.toList.isEmpty = false) (hnm : Sc.namedB nm.data.toList = false) :
  Calls Tryz.prog 16 #[.agg #[.string v, .string nm, .slice A n c]] w (fun e w' => e = .returned (.int .i64 2) ∧ Below w.heap.size w w') := by
 have HL : Hid (∀ W, Calls Tryz.prog 45 #[.string v] W (fun e w' => e = .returned (.bool true) ∧ W = w')) := Lib.hid fun W => (letters_any v W hv).mono fun e w' h => ⟨by rw [h.1, hl], h.2⟩
 have HN : Hid (∀ W, Calls Tryz.prog 46 #[.string nm] W (fun e w' => e = .returned (.bool false) ∧ W = w')) := Lib.hid fun W => (named_any nm W hnz).mono fun e w' h => ⟨by rw [h.1, hnm], h.2⟩
 clear hv hl hnm hnz
 have hbx := (Box.new w 25 #[.string v, .string nm, .slice A n c]).2
 go_enter Tryz.func16, Tryz.ntmps16
 go_wp2_with (first | (go_at_call 45; (with_reducible refine (HL.out _).mono ?_); rintro _ _ ⟨rfl, rfl⟩) | (go_at_call 46; (with_reducible refine (HN.out _).mono ?_); rintro _ _ ⟨rfl, rfl⟩))
 go_loopg [3, 4] 0 (fun k vv iv wr => vv = .bool false ∧ iv = .int .i64 0 ∧ Hid (Below w.heap.size w wr))
 case atStart => exact ⟨(by first | rfl | (simp; omega)), rfl, Lib.hid hbx⟩
 case round =>
  obtain ⟨rfl, rfl, hO⟩ := hrel
  go_wp2_with fail
  go_ret
  exact ⟨rfl, hO.out⟩
set_option maxRecDepth 100000 in
set_option maxHeartbeats 2000000 in
theorem schk_3 {w : World} {v nm : ByteArray} {A : Option Addr} {n c : Nat} (hv : v.size ≤ 9223372036854775807) (hnz : nm.size ≤ 9223372036854775807) (hl : Sc.lettersB v.data.toList = true) (he : nm.toList.isEmpty = true) (hn64 : ¬ (n : Int) ≤ 64) :
  Calls Tryz.prog 16 #[.agg #[.string v, .string nm, .slice A n c]] w (fun e w' => e = .returned (.int .i64 2) ∧ Below w.heap.size w w') := by
 have HL : Hid (∀ W, Calls Tryz.prog 45 #[.string v] W (fun e w' => e = .returned (.bool true) ∧ W = w')) := Lib.hid fun W => (letters_any v W hv).mono fun e w' h => ⟨by rw [h.1, hl], h.2⟩
 clear hv hl hnz
 have hbx := (Box.new w 25 #[.string v, .string nm, .slice A n c]).2
 go_enter Tryz.func16, Tryz.ntmps16
 go_wp2_with (go_at_call 45; (with_reducible refine (HL.out _).mono ?_); rintro _ _ ⟨rfl, rfl⟩)
 go_loopg [3, 4] 0 (fun k vv iv wr => vv = .bool false ∧ iv = .int .i64 0 ∧ Hid (Below w.heap.size w wr))
 case atStart => exact ⟨(by first | rfl | (simp; omega)), rfl, Lib.hid hbx⟩
 case round =>
  obtain ⟨rfl, rfl, hO⟩ := hrel
  go_wp2_with fail
  go_ret
  exact ⟨rfl, hO.out⟩
set_option maxRecDepth 100000 in
set_option maxHeartbeats 2000000 in
theorem schk_4 {w : World} {v nm : ByteArray} {A : Option Addr} {n c : Nat} (hv : v.size ≤ 9223372036854775807) (hnz : nm.size ≤ 9223372036854775807) (hl : Sc.lettersB v.data.toList = true) (he : nm.toList.isEmpty = false) (hnm : Sc.namedB nm.data.toList = true) (hn64 : ¬ (n : Int) ≤ 64) :
  Calls Tryz.prog 16 #[.agg #[.string v, .string nm, .slice A n c]] w (fun e w' => e = .returned (.int .i64 2) ∧ Below w.heap.size w w') := by
 have HL : Hid (∀ W, Calls Tryz.prog 45 #[.string v] W (fun e w' => e = .returned (.bool true) ∧ W = w')) := Lib.hid fun W => (letters_any v W hv).mono fun e w' h => ⟨by rw [h.1, hl], h.2⟩
 have HN : Hid (∀ W, Calls Tryz.prog 46 #[.string nm] W (fun e w' => e = .returned (.bool true) ∧ W = w')) := Lib.hid fun W => (named_any nm W hnz).mono fun e w' h => ⟨by rw [h.1, hnm], h.2⟩
 clear hv hl hnm hnz
 have hbx := (Box.new w 25 #[.string v, .string nm, .slice A n c]).2
 go_enter Tryz.func16, Tryz.ntmps16
 go_wp2_with (first | (go_at_call 45; (with_reducible refine (HL.out _).mono ?_); rintro _ _ ⟨rfl, rfl⟩) | (go_at_call 46; (with_reducible refine (HN.out _).mono ?_); rintro _ _ ⟨rfl, rfl⟩))
 go_loopg [3, 4] 0 (fun k vv iv wr => vv = .bool false ∧ iv = .int .i64 0 ∧ Hid (Below w.heap.size w wr))
 case atStart => exact ⟨(by first | rfl | (simp; omega)), rfl, Lib.hid hbx⟩
 case round =>
  obtain ⟨rfl, rfl, hO⟩ := hrel
  go_wp2_with fail
  go_ret
  exact ⟨rfl, hO.out⟩
set_option maxRecDepth 100000 in
set_option maxHeartbeats 4000000 in
theorem schk_e {w : World} {v nm : ByteArray} {A : Option Addr} {n c : Nat} {B : Nat} {rs : List ARow} (hv : v.size ≤ 9223372036854775807) (hnz : nm.size ≤ 9223372036854775807) (hl : Sc.lettersB v.data.toList = true) (he : nm.toList.isEmpty = true) (hn64 : (n : Int) ≤ 64) (hr : ReadsA w B A rs) (hB : B ≤ w.heap.size) (hn : n = rs.length) (hf : ∀ r ∈ rs, r.2.2.fit) {b : Bool} (hb : b = true ↔ ∀ r ∈ rs, r.2.2.ok) {z : Int} (hz : z = if b then 0 else 2) :
  Calls Tryz.prog 16 #[.agg #[.string v, .string nm, .slice A n c]] w (fun e w' => e = .returned (.int .i64 z) ∧ Below w.heap.size w w') := by
 have HL : Hid (∀ W, Calls Tryz.prog 45 #[.string v] W (fun e w' => e = .returned (.bool true) ∧ W = w')) := Lib.hid fun W => (letters_any v W hv).mono fun e w' h => ⟨by rw [h.1, hl], h.2⟩
 clear hv hl hnz
 have Hr := Lib.hid (hr.more hB)
 have Hn := Lib.hid hn
 have Hf := Lib.hid hf
 have Hb := Lib.hid hb
 have Hz := Lib.hid hz
 clear hr hB hn hf hb hz
 have hbx := Box.new w 25 #[.string v, .string nm, .slice A n c]
 have Hbx := Lib.hid hbx
 clear hbx
 go_enter Tryz.func16, Tryz.ntmps16
 go_wp2_with (go_at_call 45; (with_reducible refine (HL.out _).mono ?_); rintro _ _ ⟨rfl, rfl⟩)
 go_loopg [3, 4] n (fun k vv iv wr => ∃ (i : Nat) (t : Bool), vv = .bool t ∧ iv = .int .i64 (i : Int) ∧ k = n - i ∧ i ≤ n ∧ Hid (t = true ↔ ∀ r ∈ rs.take i, r.2.2.ok) ∧ Hid (Box w wr 25 #[.string v, .string nm, .slice A n c]))
 case atStart => exact ⟨0, true, rfl, rfl, by omega, by omega, Lib.hid (by simp), Hbx⟩
 case round =>
  obtain ⟨i, t, rfl, rfl, hk, hi, ht, hO⟩ := hrel
  have Hk := Lib.hid hk
  clear hk
  have b2 := hO.out.1.cell 2
  by_cases hin : i < n
  ·have hil : i < rs.length := by rw [← Hn.out]; exact hin
   have hii : (i : Int) < (n : Int) := by omega
   cases t
   ·have Hbad := Lib.hid (show b = false from no_b Hb.out fun h => by
     have := ht.out.2 fun r hr => h r (List.mem_of_mem_take hr)
     cases this)
    go_wp2_with fail
    go_ret
    exact ⟨by rw [Hz.out, Hbad.out]; rfl, hO.out.2⟩
   ·obtain ⟨ad, rfl, hb1, ⟨c0, c1, c2, c3, c4, c5, c6, c7, c8, c9, c10, c11⟩, ha⟩ := (Hr.out.below hO.out.2).cells hil
    obtain ⟨u, hu⟩ := ex_b (rs[i].2.2.ok)
    have HM := Lib.hid (may_any (w := wr) (ha.more hO.out.2.size) (Nat.le_refl _) (Nat.le_trans (Hf.out _ (List.getElem_mem hil)).wd (by decide)) (Nat.le_trans (Hf.out _ (List.getElem_mem hil)).nm (by decide)) hu)
    have Hst := Lib.hid (fun h0 => all_to hil h0 hu)
    clear ha hu hb1
    generalize rs[i] = r at *
    clear hil
    obtain ⟨A1, c1', x⟩ := r
    simp only [argV] at HM
    simp only at c0 c1 c2 c3 c4 c5 c6 c7 c8 c9 c10 c11
    go_wp2_with (go_at_call 47; (with_reducible refine HM.out.mono ?_); rintro _ W3 ⟨rfl, hb3⟩; have Hb3 := Lib.hid hb3; clear hb3)
    go_roundg (n - (i + 1))
    case measure => have := Hk.out; omega
    case rel => exact ⟨i + 1, u, rfl, rfl, rfl, by omega, Lib.hid (Hst.out (ht.out.1 (by trivial))), Lib.hid (hO.out.next Hb3.out)⟩
  ·have hii : ¬ (i : Int) < (n : Int) := by omega
   have h2 := ht.out
   rw [List.take_of_length_le (by have := Hn.out; omega)] at h2
   have Hbt := Lib.hid (show b = t by rw [Bool.eq_iff_iff, Hb.out, h2])
   clear h2
   cases t
   ·go_wp2_with fail
    go_ret
    exact ⟨by rw [Hz.out, Hbt.out]; rfl, hO.out.2⟩
   ·go_wp2_with fail
    go_ret
    exact ⟨by rw [Hz.out, Hbt.out]; rfl, hO.out.2⟩
set_option maxRecDepth 100000 in
set_option maxHeartbeats 4000000 in
theorem schk_n {w : World} {v nm : ByteArray} {A : Option Addr} {n c : Nat} {B : Nat} {rs : List ARow} (hv : v.size ≤ 9223372036854775807) (hnz : nm.size ≤ 9223372036854775807) (hl : Sc.lettersB v.data.toList = true) (he : nm.toList.isEmpty = false) (hnm : Sc.namedB nm.data.toList = true) (hn64 : (n : Int) ≤ 64) (hr : ReadsA w B A rs) (hB : B ≤ w.heap.size) (hn : n = rs.length) (hf : ∀ r ∈ rs, r.2.2.fit) {b : Bool} (hb : b = true ↔ ∀ r ∈ rs, r.2.2.ok) {z : Int} (hz : z = if b then 0 else 2) :
  Calls Tryz.prog 16 #[.agg #[.string v, .string nm, .slice A n c]] w (fun e w' => e = .returned (.int .i64 z) ∧ Below w.heap.size w w') := by
 have HL : Hid (∀ W, Calls Tryz.prog 45 #[.string v] W (fun e w' => e = .returned (.bool true) ∧ W = w')) := Lib.hid fun W => (letters_any v W hv).mono fun e w' h => ⟨by rw [h.1, hl], h.2⟩
 have HN : Hid (∀ W, Calls Tryz.prog 46 #[.string nm] W (fun e w' => e = .returned (.bool true) ∧ W = w')) := Lib.hid fun W => (named_any nm W hnz).mono fun e w' h => ⟨by rw [h.1, hnm], h.2⟩
 clear hv hl hnm hnz
 have Hr := Lib.hid (hr.more hB)
 have Hn := Lib.hid hn
 have Hf := Lib.hid hf
 have Hb := Lib.hid hb
 have Hz := Lib.hid hz
 clear hr hB hn hf hb hz
 have hbx := Box.new w 25 #[.string v, .string nm, .slice A n c]
 have Hbx := Lib.hid hbx
 clear hbx
 go_enter Tryz.func16, Tryz.ntmps16
 go_wp2_with (first | (go_at_call 45; (with_reducible refine (HL.out _).mono ?_); rintro _ _ ⟨rfl, rfl⟩) | (go_at_call 46; (with_reducible refine (HN.out _).mono ?_); rintro _ _ ⟨rfl, rfl⟩))
 go_loopg [3, 4] n (fun k vv iv wr => ∃ (i : Nat) (t : Bool), vv = .bool t ∧ iv = .int .i64 (i : Int) ∧ k = n - i ∧ i ≤ n ∧ Hid (t = true ↔ ∀ r ∈ rs.take i, r.2.2.ok) ∧ Hid (Box w wr 25 #[.string v, .string nm, .slice A n c]))
 case atStart => exact ⟨0, true, rfl, rfl, by omega, by omega, Lib.hid (by simp), Hbx⟩
 case round =>
  obtain ⟨i, t, rfl, rfl, hk, hi, ht, hO⟩ := hrel
  have Hk := Lib.hid hk
  clear hk
  have b2 := hO.out.1.cell 2
  by_cases hin : i < n
  ·have hil : i < rs.length := by rw [← Hn.out]; exact hin
   have hii : (i : Int) < (n : Int) := by omega
   cases t
   ·have Hbad := Lib.hid (show b = false from no_b Hb.out fun h => by
     have := ht.out.2 fun r hr => h r (List.mem_of_mem_take hr)
     cases this)
    go_wp2_with fail
    go_ret
    exact ⟨by rw [Hz.out, Hbad.out]; rfl, hO.out.2⟩
   ·obtain ⟨ad, rfl, hb1, ⟨c0, c1, c2, c3, c4, c5, c6, c7, c8, c9, c10, c11⟩, ha⟩ := (Hr.out.below hO.out.2).cells hil
    obtain ⟨u, hu⟩ := ex_b (rs[i].2.2.ok)
    have HM := Lib.hid (may_any (w := wr) (ha.more hO.out.2.size) (Nat.le_refl _) (Nat.le_trans (Hf.out _ (List.getElem_mem hil)).wd (by decide)) (Nat.le_trans (Hf.out _ (List.getElem_mem hil)).nm (by decide)) hu)
    have Hst := Lib.hid (fun h0 => all_to hil h0 hu)
    clear ha hu hb1
    generalize rs[i] = r at *
    clear hil
    obtain ⟨A1, c1', x⟩ := r
    simp only [argV] at HM
    simp only at c0 c1 c2 c3 c4 c5 c6 c7 c8 c9 c10 c11
    go_wp2_with (go_at_call 47; (with_reducible refine HM.out.mono ?_); rintro _ W3 ⟨rfl, hb3⟩; have Hb3 := Lib.hid hb3; clear hb3)
    go_roundg (n - (i + 1))
    case measure => have := Hk.out; omega
    case rel => exact ⟨i + 1, u, rfl, rfl, rfl, by omega, Lib.hid (Hst.out (ht.out.1 (by trivial))), Lib.hid (hO.out.next Hb3.out)⟩
  ·have hii : ¬ (i : Int) < (n : Int) := by omega
   have h2 := ht.out
   rw [List.take_of_length_le (by have := Hn.out; omega)] at h2
   have Hbt := Lib.hid (show b = t by rw [Bool.eq_iff_iff, Hb.out, h2])
   clear h2
   cases t
   ·go_wp2_with fail
    go_ret
    exact ⟨by rw [Hz.out, Hbt.out]; rfl, hO.out.2⟩
   ·go_wp2_with fail
    go_ret
    exact ⟨by rw [Hz.out, Hbt.out]; rfl, hO.out.2⟩
theorem scheck_any {w : World} {B : Nat} {s : StR} (hr : ReadsA w B s.A s.rs) (hB : B ≤ w.heap.size) (hf : s.p.fit) {b : Bool} (hb : b = true ↔ s.p.ok) :
  Calls Tryz.prog 16 #[.agg s.cells] w (fun e w' => e = .returned (.int .i64 (if b then 0 else 2)) ∧ Below w.heap.size w w') := by
 rw [st_ok] at hb
 unfold StR.cells
 have hv := Nat.le_trans hf.v (by decide : 1000000 ≤ 9223372036854775807)
 have hnz := Nat.le_trans hf.nm (by decide : 1000000 ≤ 9223372036854775807)
 cases hl : Sc.lettersB s.v.data.toList
 ·rw [no_b hb fun h => by rw [hl] at h; exact absurd h.1 (by decide)]
  exact schk_1 hv hl
 by_cases h64 : (s.rs.length : Int) ≤ 64
 ·by_cases he : s.nm = ⟨#[]⟩
  ·refine schk_e hv hnz hl (emp_yes he) h64 hr hB rfl (fun r h => arg_fit hf h) (hb.trans ?_) rfl
   exact ⟨fun h => h.2.2.2, fun h => ⟨hl, .inl he, by omega, h⟩⟩
  ·cases hn : Sc.namedB s.nm.data.toList
   ·rw [no_b hb fun h => h.2.1.elim (fun h => he h) (fun h => by rw [hn] at h; cases h)]
    exact schk_2 hv hnz hl (emp_no he) hn
   ·refine schk_n hv hnz hl (emp_no he) hn h64 hr hB rfl (fun r h => arg_fit hf h) (hb.trans ?_) rfl
    exact ⟨fun h => h.2.2.2, fun h => ⟨hl, .inr hn, by omega, h⟩⟩
 ·rw [no_b hb fun h => h64 (by have := h.2.2.1; omega)]
  by_cases he : s.nm = ⟨#[]⟩
  ·exact schk_3 hv hnz hl (emp_yes he) h64
  ·cases hn : Sc.namedB s.nm.data.toList
   ·exact schk_2 hv hnz hl (emp_no he) hn
   ·exact schk_4 hv hnz hl (emp_no he) hn h64
set_option maxRecDepth 100000 in
set_option maxHeartbeats 2000000 in
theorem rschk_1 {w : World} {v nm : ByteArray} {A : Option Addr} {n c : Nat} (hv : v.size ≤ 9223372036854775807) (hl : Sc.lettersB v.data.toList = false) :
  Calls Tryz.prog 17 #[.agg #[.string v, .string nm, .slice A n c]] w (fun e w' => e = .returned (.int .i64 2) ∧ Below w.heap.size w w') := by
 have HL : Hid (∀ W, Calls Tryz.prog 48 #[.string v] W (fun e w' => e = .returned (.bool false) ∧ W = w')) := Lib.hid fun W => (rletters_any v W hv).mono fun e w' h => ⟨by rw [h.1, hl], h.2⟩
 clear hv hl
 have hbx := (Box.new w 25 #[.string v, .string nm, .slice A n c]).2
 go_enter Tryz.func17, Tryz.ntmps17
 go_wp2_with (go_at_call 48; (with_reducible refine (HL.out _).mono ?_); rintro _ _ ⟨rfl, rfl⟩)
 go_ret
 exact ⟨rfl, hbx⟩
set_option maxRecDepth 100000 in
set_option maxHeartbeats 2000000 in
theorem rschk_2 {w : World} {v nm : ByteArray} {A : Option Addr} {n c : Nat} (hv : v.size ≤ 9223372036854775807) (hnz : nm.size ≤ 9223372036854775807) (hl : Sc.lettersB v.data.toList = true) (he : nm.toList.isEmpty = false) (hnm : Sc.namedB nm.data.toList = false) :
  Calls Tryz.prog 17 #[.agg #[.string v, .string nm, .slice A n c]] w (fun e w' => e = .returned (.int .i64 2) ∧ Below w.heap.size w w') := by
 have HL : Hid (∀ W, Calls Tryz.prog 48 #[.string v] W (fun e w' => e = .returned (.bool true) ∧ W = w')) := Lib.hid fun W => (rletters_any v W hv).mono fun e w' h => ⟨by rw [h.1, hl], h.2⟩
 have HN : Hid (∀ W, Calls Tryz.prog 49 #[.string nm] W (fun e w' => e = .returned (.bool false) ∧ W = w')) := Lib.hid fun W => (rnamed_any nm W hnz).mono fun e w' h => ⟨by rw [h.1, hnm], h.2⟩
 clear hv hl hnm hnz
 have hbx := (Box.new w 25 #[.string v, .string nm, .slice A n c]).2
 go_enter Tryz.func17, Tryz.ntmps17
 go_wp2_with (first | (go_at_call 48; (with_reducible refine (HL.out _).mono ?_); rintro _ _ ⟨rfl, rfl⟩) | (go_at_call 49; (with_reducible refine (HN.out _).mono ?_); rintro _ _ ⟨rfl, rfl⟩))
 go_ret
 exact ⟨rfl, hbx⟩
set_option maxRecDepth 100000 in
set_option maxHeartbeats 2000000 in
theorem rschk_3 {w : World} {v nm : ByteArray} {A : Option Addr} {n c : Nat} (hv : v.size ≤ 9223372036854775807) (hnz : nm.size ≤ 9223372036854775807) (hl : Sc.lettersB v.data.toList = true) (he : nm.toList.isEmpty = true) (hn64 : ¬ (n : Int) ≤ 64) :
  Calls Tryz.prog 17 #[.agg #[.string v, .string nm, .slice A n c]] w (fun e w' => e = .returned (.int .i64 2) ∧ Below w.heap.size w w') := by
 have HL : Hid (∀ W, Calls Tryz.prog 48 #[.string v] W (fun e w' => e = .returned (.bool true) ∧ W = w')) := Lib.hid fun W => (rletters_any v W hv).mono fun e w' h => ⟨by rw [h.1, hl], h.2⟩
 clear hv hl hnz
 have hbx := (Box.new w 25 #[.string v, .string nm, .slice A n c]).2
 go_enter Tryz.func17, Tryz.ntmps17
 go_wp2_with (go_at_call 48; (with_reducible refine (HL.out _).mono ?_); rintro _ _ ⟨rfl, rfl⟩)
 go_ret
 exact ⟨rfl, hbx⟩
set_option maxRecDepth 100000 in
set_option maxHeartbeats 2000000 in
theorem rschk_4 {w : World} {v nm : ByteArray} {A : Option Addr} {n c : Nat} (hv : v.size ≤ 9223372036854775807) (hnz : nm.size ≤ 9223372036854775807) (hl : Sc.lettersB v.data.toList = true) (he : nm.toList.isEmpty = false) (hnm : Sc.namedB nm.data.toList = true) (hn64 : ¬ (n : Int) ≤ 64) :
  Calls Tryz.prog 17 #[.agg #[.string v, .string nm, .slice A n c]] w (fun e w' => e = .returned (.int .i64 2) ∧ Below w.heap.size w w') := by
 have HL : Hid (∀ W, Calls Tryz.prog 48 #[.string v] W (fun e w' => e = .returned (.bool true) ∧ W = w')) := Lib.hid fun W => (rletters_any v W hv).mono fun e w' h => ⟨by rw [h.1, hl], h.2⟩
 have HN : Hid (∀ W, Calls Tryz.prog 49 #[.string nm] W (fun e w' => e = .returned (.bool true) ∧ W = w')) := Lib.hid fun W => (rnamed_any nm W hnz).mono fun e w' h => ⟨by rw [h.1, hnm], h.2⟩
 clear hv hl hnm hnz
 have hbx := (Box.new w 25 #[.string v, .string nm, .slice A n c]).2
 go_enter Tryz.func17, Tryz.ntmps17
 go_wp2_with (first | (go_at_call 48; (with_reducible refine (HL.out _).mono ?_); rintro _ _ ⟨rfl, rfl⟩) | (go_at_call 49; (with_reducible refine (HN.out _).mono ?_); rintro _ _ ⟨rfl, rfl⟩))
 go_ret
 exact ⟨rfl, hbx⟩
set_option maxRecDepth 100000 in
set_option maxHeartbeats 4000000 in
theorem rschk_e {w : World} {v nm : ByteArray} {A : Option Addr} {n c : Nat} {B : Nat} {rs : List ARow} (hv : v.size ≤ 9223372036854775807) (hnz : nm.size ≤ 9223372036854775807) (hl : Sc.lettersB v.data.toList = true) (he : nm.toList.isEmpty = true) (hn64 : (n : Int) ≤ 64) (hr : ReadsA w B A rs) (hB : B ≤ w.heap.size) (hn : n = rs.length) (hf : ∀ r ∈ rs, r.2.2.fit) {b : Bool} (hb : b = true ↔ ∀ r ∈ rs, r.2.2.ok) {z : Int} (hz : z = if b then 0 else 2) :
  Calls Tryz.prog 17 #[.agg #[.string v, .string nm, .slice A n c]] w (fun e w' => e = .returned (.int .i64 z) ∧ Below w.heap.size w w') := by
 have HL : Hid (∀ W, Calls Tryz.prog 48 #[.string v] W (fun e w' => e = .returned (.bool true) ∧ W = w')) := Lib.hid fun W => (rletters_any v W hv).mono fun e w' h => ⟨by rw [h.1, hl], h.2⟩
 clear hv hl hnz
 have Hr := Lib.hid (hr.more hB)
 have Hn := Lib.hid hn
 have Hf := Lib.hid hf
 have Hb := Lib.hid hb
 have Hz := Lib.hid hz
 clear hr hB hn hf hb hz
 have hbx := Box.new w 25 #[.string v, .string nm, .slice A n c]
 have Hbx := Lib.hid hbx
 clear hbx
 go_enter Tryz.func17, Tryz.ntmps17
 go_wp2_with (go_at_call 48; (with_reducible refine (HL.out _).mono ?_); rintro _ _ ⟨rfl, rfl⟩)
 go_loopg [3] n (fun k iv wr => ∃ (i : Nat), iv = .int .i64 (i : Int) ∧ k = n - i ∧ i ≤ n ∧ Hid (∀ r ∈ rs.take i, r.2.2.ok) ∧ Hid (Box w wr 25 #[.string v, .string nm, .slice A n c]))
 case atStart => exact ⟨0, rfl, by omega, by omega, Lib.hid (by simp), Hbx⟩
 case round =>
  obtain ⟨i, rfl, hk, hi, ht, hO⟩ := hrel
  have Hk := Lib.hid hk
  clear hk
  have b2 := hO.out.1.cell 2
  by_cases hin : i < n
  ·have hil : i < rs.length := by rw [← Hn.out]; exact hin
   have hii : (i : Int) < (n : Int) := by omega
   obtain ⟨ad, rfl, hb1, ⟨c0, c1, c2, c3, c4, c5, c6, c7, c8, c9, c10, c11⟩, ha⟩ := (Hr.out.below hO.out.2).cells hil
   obtain ⟨u, hu⟩ := ex_b (rs[i].2.2.ok)
   have HM := Lib.hid (rmay_any (w := wr) (ha.more hO.out.2.size) (Nat.le_refl _) (Nat.le_trans (Hf.out _ (List.getElem_mem hil)).wd (by decide)) (Nat.le_trans (Hf.out _ (List.getElem_mem hil)).nm (by decide)) hu)
   have Hst := Lib.hid (fun h0 => all_to hil h0 hu)
   clear ha hu hb1
   generalize rs[i] = r at *
   clear hil
   obtain ⟨A1, c1', x⟩ := r
   simp only [argV] at HM
   simp only at c0 c1 c2 c3 c4 c5 c6 c7 c8 c9 c10 c11
   cases u
   ·have Hbad := Lib.hid (show b = false from no_b Hb.out fun h => by
     have := (Hst.out ht.out).2 fun r hr => h r (List.mem_of_mem_take hr)
     cases this)
    go_wp2_with (go_at_call 50; (with_reducible refine HM.out.mono ?_); rintro _ W3 ⟨rfl, hb3⟩; have Hb3 := Lib.hid hb3; clear hb3)
    go_ret
    exact ⟨by rw [Hz.out, Hbad.out]; rfl, (hO.out.next Hb3.out).2⟩
   ·go_wp2_with (go_at_call 50; (with_reducible refine HM.out.mono ?_); rintro _ W3 ⟨rfl, hb3⟩; have Hb3 := Lib.hid hb3; clear hb3)
    go_roundg (n - (i + 1))
    case measure => have := Hk.out; omega
    case rel => exact ⟨i + 1, rfl, rfl, by omega, Lib.hid ((Hst.out ht.out).1 (by trivial)), Lib.hid (hO.out.next Hb3.out)⟩
  ·have hii : ¬ (i : Int) < (n : Int) := by omega
   have h2 := ht.out
   rw [List.take_of_length_le (by have := Hn.out; omega)] at h2
   have Hbt := Lib.hid (Hb.out.2 h2)
   clear h2
   go_wp2_with fail
   go_ret
   exact ⟨by rw [Hz.out, Hbt.out]; rfl, hO.out.2⟩
set_option maxRecDepth 100000 in
set_option maxHeartbeats 4000000 in
theorem rschk_n {w : World} {v nm : ByteArray} {A : Option Addr} {n c : Nat} {B : Nat} {rs : List ARow} (hv : v.size ≤ 9223372036854775807) (hnz : nm.size ≤ 9223372036854775807) (hl : Sc.lettersB v.data.toList = true) (he : nm.toList.isEmpty = false) (hnm : Sc.namedB nm.data.toList = true) (hn64 : (n : Int) ≤ 64) (hr : ReadsA w B A rs) (hB : B ≤ w.heap.size) (hn : n = rs.length) (hf : ∀ r ∈ rs, r.2.2.fit) {b : Bool} (hb : b = true ↔ ∀ r ∈ rs, r.2.2.ok) {z : Int} (hz : z = if b then 0 else 2) :
  Calls Tryz.prog 17 #[.agg #[.string v, .string nm, .slice A n c]] w (fun e w' => e = .returned (.int .i64 z) ∧ Below w.heap.size w w') := by
 have HL : Hid (∀ W, Calls Tryz.prog 48 #[.string v] W (fun e w' => e = .returned (.bool true) ∧ W = w')) := Lib.hid fun W => (rletters_any v W hv).mono fun e w' h => ⟨by rw [h.1, hl], h.2⟩
 have HN : Hid (∀ W, Calls Tryz.prog 49 #[.string nm] W (fun e w' => e = .returned (.bool true) ∧ W = w')) := Lib.hid fun W => (rnamed_any nm W hnz).mono fun e w' h => ⟨by rw [h.1, hnm], h.2⟩
 clear hv hl hnm hnz
 have Hr := Lib.hid (hr.more hB)
 have Hn := Lib.hid hn
 have Hf := Lib.hid hf
 have Hb := Lib.hid hb
 have Hz := Lib.hid hz
 clear hr hB hn hf hb hz
 have hbx := Box.new w 25 #[.string v, .string nm, .slice A n c]
 have Hbx := Lib.hid hbx
 clear hbx
 go_enter Tryz.func17, Tryz.ntmps17
 go_wp2_with (first | (go_at_call 48; (with_reducible refine (HL.out _).mono ?_); rintro _ _ ⟨rfl, rfl⟩) | (go_at_call 49; (with_reducible refine (HN.out _).mono ?_); rintro _ _ ⟨rfl, rfl⟩))
 go_loopg [3] n (fun k iv wr => ∃ (i : Nat), iv = .int .i64 (i : Int) ∧ k = n - i ∧ i ≤ n ∧ Hid (∀ r ∈ rs.take i, r.2.2.ok) ∧ Hid (Box w wr 25 #[.string v, .string nm, .slice A n c]))
 case atStart => exact ⟨0, rfl, by omega, by omega, Lib.hid (by simp), Hbx⟩
 case round =>
  obtain ⟨i, rfl, hk, hi, ht, hO⟩ := hrel
  have Hk := Lib.hid hk
  clear hk
  have b2 := hO.out.1.cell 2
  by_cases hin : i < n
  ·have hil : i < rs.length := by rw [← Hn.out]; exact hin
   have hii : (i : Int) < (n : Int) := by omega
   obtain ⟨ad, rfl, hb1, ⟨c0, c1, c2, c3, c4, c5, c6, c7, c8, c9, c10, c11⟩, ha⟩ := (Hr.out.below hO.out.2).cells hil
   obtain ⟨u, hu⟩ := ex_b (rs[i].2.2.ok)
   have HM := Lib.hid (rmay_any (w := wr) (ha.more hO.out.2.size) (Nat.le_refl _) (Nat.le_trans (Hf.out _ (List.getElem_mem hil)).wd (by decide)) (Nat.le_trans (Hf.out _ (List.getElem_mem hil)).nm (by decide)) hu)
   have Hst := Lib.hid (fun h0 => all_to hil h0 hu)
   clear ha hu hb1
   generalize rs[i] = r at *
   clear hil
   obtain ⟨A1, c1', x⟩ := r
   simp only [argV] at HM
   simp only at c0 c1 c2 c3 c4 c5 c6 c7 c8 c9 c10 c11
   cases u
   ·have Hbad := Lib.hid (show b = false from no_b Hb.out fun h => by
     have := (Hst.out ht.out).2 fun r hr => h r (List.mem_of_mem_take hr)
     cases this)
    go_wp2_with (go_at_call 50; (with_reducible refine HM.out.mono ?_); rintro _ W3 ⟨rfl, hb3⟩; have Hb3 := Lib.hid hb3; clear hb3)
    go_ret
    exact ⟨by rw [Hz.out, Hbad.out]; rfl, (hO.out.next Hb3.out).2⟩
   ·go_wp2_with (go_at_call 50; (with_reducible refine HM.out.mono ?_); rintro _ W3 ⟨rfl, hb3⟩; have Hb3 := Lib.hid hb3; clear hb3)
    go_roundg (n - (i + 1))
    case measure => have := Hk.out; omega
    case rel => exact ⟨i + 1, rfl, rfl, by omega, Lib.hid ((Hst.out ht.out).1 (by trivial)), Lib.hid (hO.out.next Hb3.out)⟩
  ·have hii : ¬ (i : Int) < (n : Int) := by omega
   have h2 := ht.out
   rw [List.take_of_length_le (by have := Hn.out; omega)] at h2
   have Hbt := Lib.hid (Hb.out.2 h2)
   clear h2
   go_wp2_with fail
   go_ret
   exact ⟨by rw [Hz.out, Hbt.out]; rfl, hO.out.2⟩
theorem rscheck_any {w : World} {B : Nat} {s : StR} (hr : ReadsA w B s.A s.rs) (hB : B ≤ w.heap.size) (hf : s.p.fit) {b : Bool} (hb : b = true ↔ s.p.ok) :
  Calls Tryz.prog 17 #[.agg s.cells] w (fun e w' => e = .returned (.int .i64 (if b then 0 else 2)) ∧ Below w.heap.size w w') := by
 rw [st_ok] at hb
 unfold StR.cells
 have hv := Nat.le_trans hf.v (by decide : 1000000 ≤ 9223372036854775807)
 have hnz := Nat.le_trans hf.nm (by decide : 1000000 ≤ 9223372036854775807)
 cases hl : Sc.lettersB s.v.data.toList
 ·rw [no_b hb fun h => by rw [hl] at h; exact absurd h.1 (by decide)]
  exact rschk_1 hv hl
 by_cases h64 : (s.rs.length : Int) ≤ 64
 ·by_cases he : s.nm = ⟨#[]⟩
  ·refine rschk_e hv hnz hl (emp_yes he) h64 hr hB rfl (fun r h => arg_fit hf h) (hb.trans ?_) rfl
   exact ⟨fun h => h.2.2.2, fun h => ⟨hl, .inl he, by omega, h⟩⟩
  ·cases hn : Sc.namedB s.nm.data.toList
   ·rw [no_b hb fun h => h.2.1.elim (fun h => he h) (fun h => by rw [hn] at h; cases h)]
    exact rschk_2 hv hnz hl (emp_no he) hn
   ·refine rschk_n hv hnz hl (emp_no he) hn h64 hr hB rfl (fun r h => arg_fit hf h) (hb.trans ?_) rfl
    exact ⟨fun h => h.2.2.2, fun h => ⟨hl, .inr hn, by omega, h⟩⟩
 ·rw [no_b hb fun h => h64 (by have := h.2.2.1; omega)]
  by_cases he : s.nm = ⟨#[]⟩
  ·exact rschk_3 hv hnz hl (emp_yes he) h64
  ·cases hn : Sc.namedB s.nm.data.toList
   ·exact rschk_2 hv hnz hl (emp_no he) hn
   ·exact rschk_4 hv hnz hl (emp_no he) hn h64
theorem join_anyZ {w : World} {B n c : Nat} {A : Option Addr} {l : List (List UInt8)} (h : OwnS w B (.slice A n c) l) (h1 : 1 ≤ l.length) (h2 : l.length ≤ 100000) (hs : (Lib.join l [32]).length ≤ 140737488355328) :
  Calls Tryz.prog 43 #[.slice A n c, .string ⟨#[32]⟩] w (fun e w' => e = .returned (bs (Lib.join l [32])) ∧ Below w.heap.size w w') := by
 obtain ⟨A', c', e, hc, hm⟩ := h.form
 injection e with e1 e2 e3
 subst e1 e2 e3
 have h' : w.ownsRow B 9 1 (.slice A l.length c) l.length (l.map bs) := h
 obtain ⟨g, cap, hv, hg1, hg2⟩ := h'.form (by omega)
 injection hv with e1 _ e3
 subst e1 e3
 have hx : ((l.map (fun b => (⟨b.toArray⟩ : ByteArray))).map (·.data.toList)) = l := by
  rw [List.map_map]
  have : ((fun b : ByteArray => b.data.toList) ∘ fun b : List UInt8 => (⟨b.toArray⟩ : ByteArray)) = id := by funext b; rfl
  rw [this, List.map_id]
 have hj := Tryz.strings_Join g 0 c (l.map (fun b => (⟨b.toArray⟩ : ByteArray))) ⟨#[32]⟩ w (fun j x hj => by
  rw [Nat.zero_add]
  have hc := h'.cells (g := g) rfl j (bs x.data.toList) (by
   rw [List.getElem?_map] at hj ⊢
   cases hlj : l[j]? with
   | none => rw [hlj] at hj; cases hj
   | some b => rw [hlj] at hj; injection hj with hj; subst hj; rfl)
  have e : (⟨g, 0, none⟩ : Addr).add j = ⟨g, j, none⟩ := by rw [Addr.add_lit, Nat.zero_add]
  rw [e] at hc
  exact hc) hg2 (by rw [List.length_map]; omega) (by rw [List.length_map]; exact hc) (by rw [hx]; exact hs)
 rw [hx, List.length_map] at hj
 exact hj
theorem join_allZ {w : World} {B n c : Nat} {A : Option Addr} {l : List (List UInt8)} (h : OwnS w B (.slice A n c) l) (h2 : l.length ≤ 100000) (hs : (Lib.join l [32]).length ≤ 140737488355328) :
  Calls Tryz.prog 43 #[.slice A n c, .string ⟨#[32]⟩] w (fun e w' => e = .returned (bs (Lib.join l [32])) ∧ Below w.heap.size w w') := by
 rcases Nat.eq_zero_or_pos l.length with h0 | h0
 ·obtain ⟨A', c', e, _⟩ := h.form
  injection e with e1 e2 e3
  rw [e2, h0, List.eq_nil_of_length_eq_zero h0]
  refine (Tryz.strings_Join_none A c ⟨#[32]⟩ w).mono ?_
  rintro e w' ⟨h1, h2⟩
  exact ⟨h1, by rw [h2]; exact Below.refl _ _⟩
 ·exact join_anyZ h h0 h2 hs
theorem join_snoc {l : List (List UInt8)} (h : l ≠ []) (y sep : List UInt8) : Lib.join (l ++ [y]) sep = Lib.join l sep ++ sep ++ y := by
 cases l with
 | nil => exact absurd rfl h
 | cons x r =>
  rw [List.cons_append, Lib.join_cons, Lib.join_cons]
  simp [Lib.joinTail]
theorem lens_le {m : Nat} : ∀ {l : List (List UInt8)}, (∀ t ∈ l, t.length ≤ m) → Lib.lens l ≤ m * l.length
 | [], _ => by simp [Lib.lens]
 | x :: r, h => by
  have h1 := lens_le (l := r) fun t ht => h t (by simp [ht])
  have h2 := h x (by simp)
  have e : Lib.lens (x :: r) = x.length + Lib.lens r := by simp [Lib.lens]
  rw [e, List.length_cons, Nat.mul_succ]
  omega
theorem join_le {m : Nat} {l : List (List UInt8)} (h : ∀ t ∈ l, t.length ≤ m) : (Lib.join l [32]).length ≤ (m + 1) * l.length := by
 cases l with
 | nil => simp [Lib.join]
 | cons x r =>
  have h1 := lens_le h
  rw [Lib.join_length]
  simp only [List.length_cons, List.length_nil] at h1 ⊢
  have e : (m + 1) * (r.length + 1) = m * (r.length + 1) + (r.length + 1) := by rw [Nat.add_mul, Nat.one_mul]
  rw [e]
  generalize m * (r.length + 1) = q at h1 ⊢
  omega
theorem argT_len {x : ArgP} (h : x.ok) : (argT x).length ≤ 2300000 := by
 unfold ArgP.ok at h
 unfold argT
 by_cases h1 : x.k = 1
 ·rw [if_pos h1] at h ⊢
  have := h.1
  unfold Sc.namedB at this
  simp only [Bool.and_eq_true, decide_eq_true_eq] at this
  omega
 rw [if_neg h1] at h ⊢
 by_cases h2 : x.k = 2
 ·rw [if_pos h2] at h ⊢
  have a1 := txtF_len h.2.1.re
  have a2 := txtF_len h.2.1.im
  simp only [List.length_cons, List.length_append, List.length_nil]
  omega
 rw [if_neg h2] at h ⊢
 by_cases h3 : x.k = 3
 ·rw [if_pos h3]; decide
 rw [if_neg h3] at h ⊢
 by_cases h4 : x.k = 4
 ·rw [if_pos h4] at h ⊢
  have h5 := wtxTo_small x.wd (fun k hk => by have := of_decide_eq_true (List.all_eq_true.1 h.2.2.1 k hk); omega) (by have := h.2.2.2.1; omega) x.wd.length
  unfold wtxTo at h5
  rw [List.take_of_length_le (Nat.le_refl _)] at h5
  unfold wtx
  simp only [List.length_cons, List.length_append, List.length_nil]
  omega
 rw [if_neg h4] at h ⊢
 by_cases h5 : x.k = 5
 ·rw [if_pos h5] at h
  have := Lib.itoa_length_le x.ct (by have := h.2.2.2.1; omega) (by have := h.2.2.2.2; omega)
  rw [List.length_cons]
  omega
 ·rw [if_neg h5] at h
  exact h.elim
def headT (v nm : ByteArray) : List (List UInt8) := v.data.toList :: (if nm = ⟨#[]⟩ then [] else [61 :: nm.data.toList])
def lineT (p : StP) : List UInt8 := Lib.join (headT p.v p.nm ++ p.xs.map argT) [32]
theorem head_ne (v nm : ByteArray) (l : List (List UInt8)) : headT v nm ++ l ≠ [] := by unfold headT; simp
theorem head_len {v nm : ByteArray} (hv : Sc.lettersB v.data.toList = true) (hn : nm = ⟨#[]⟩ ∨ Sc.namedB nm.data.toList = true) : ∀ t ∈ headT v nm, t.length ≤ 2300000 := by
 have h1 : v.data.toList.length ≤ 16 := by
  unfold Sc.lettersB at hv
  simp only [Bool.and_eq_true, decide_eq_true_eq] at hv
  omega
 intro t ht
 unfold headT at ht
 rcases List.mem_cons.1 ht with rfl | h2
 ·omega
 ·by_cases e : nm = ⟨#[]⟩
  ·rw [if_pos e] at h2; simp at h2
  ·rw [if_neg e] at h2
   rcases hn with h | h
   ·exact absurd h e
   ·unfold Sc.namedB at h
    simp only [Bool.and_eq_true, decide_eq_true_eq] at h
    rw [List.mem_singleton.1 h2, List.length_cons]
    omega
theorem head_two (v nm : ByteArray) : (headT v nm).length ≤ 2 := by
 unfold headT
 split <;> simp
theorem line_len {v nm : ByteArray} {l : List ArgP} (hv : Sc.lettersB v.data.toList = true) (hn : nm = ⟨#[]⟩ ∨ Sc.namedB nm.data.toList = true) (hl : l.length ≤ 64) (ha : ∀ x ∈ l, x.ok) : (Lib.join (headT v nm ++ l.map argT) [32]).length ≤ 200000000 := by
 have h1 := join_le (m := 2300000) (l := headT v nm ++ l.map argT) (fun t ht => by
  rcases List.mem_append.1 ht with h | h
  ·exact head_len hv hn t h
  ·obtain ⟨x, hx, rfl⟩ := List.mem_map.1 h
   exact argT_len (ha x hx))
 have h2 := head_two v nm
 rw [List.length_append, List.length_map] at h1
 have h3 : (2300000 + 1) * ((headT v nm).length + l.length) ≤ (2300000 + 1) * 66 := Nat.mul_le_mul_left _ (by omega)
 omega
theorem OwnS.lit (w : World) (B : Nat) (t : ByteArray) (hB : B ≤ w.heap.size) : OwnS (w.alloc (.cells #[.string t] 9)) B (.slice (some ⟨w.heap.size, 0, none⟩) 1 1) [t.data.toList] :=
 ⟨by simp, .inr ⟨_, 1, #[.string t], rfl, hB, heap_alloc_new w _, by simp, by unfold maxLen; omega, by simp, by simp [bs]⟩⟩
theorem own_two (W : World) (B : Nat) (a b : ByteArray) (t : List UInt8) (hB : B ≤ W.heap.size) (hb : (.string b : Value) = bs t) : OwnS (((W.alloc (.cells #[.string a] 9)).alloc (.cells #[.string b] 9)).alloc (.cells (#[.string a, .string b] ++ Builtin.zeroCells #[.string ⟨#[]⟩] ((Question.appendCap 2 1 9).cut (W.tape W.drawn (Question.appendCap 2 1 9)) - 2)) 9)).drew B (.slice (some ⟨W.heap.size + 1 + 1, 0, none⟩) 2 ((Question.appendCap 2 1 9).cut (W.tape W.drawn (Question.appendCap 2 1 9)))) ([a.data.toList] ++ [t]) := by
 have h1 := grownCap_ge W 2 1 9
 have h2 := grownCap_le_maxLen W 2 1 9 (by unfold maxLen; omega)
 unfold grownCap at h1 h2
 generalize (Question.appendCap 2 1 9).cut (W.tape W.drawn (Question.appendCap 2 1 9)) = C at *
 rw [hb]
 refine ⟨by simp, .inr ⟨W.heap.size + 1 + 1, C, #[.string a, bs t] ++ Builtin.zeroCells #[.string ⟨#[]⟩] (C - 2), rfl, by omega, ?_, by simpa using h1, h2, ?_, ?_⟩⟩
 ·have h := heap_alloc_new ((W.alloc (.cells #[.string a] 9)).alloc (.cells #[bs t] 9)) (.cells (#[.string a, bs t] ++ Builtin.zeroCells #[.string ⟨#[]⟩] (C - 2)) 9)
  have e : ((W.alloc (.cells #[.string a] 9)).alloc (.cells #[bs t] 9)).heap.size = W.heap.size + 1 + 1 := by simp
  rw [e] at h
  exact h
 ·simp [size_zeroCells]; omega
 ·simp [bs]
theorem own_two_below {w W : World} {o1 o2 o3 : Obj} (h : Below w.heap.size w W) : Below w.heap.size w (((W.alloc o1).alloc o2).alloc o3).drew := by
 have hs := h.size
 have h1 := ((h.alloc hs o1).alloc (by simp; omega) o2).alloc (by simp; omega) o3
 exact ⟨h1.os, h1.tape, h1.output, h1.size, h1.block⟩
set_option maxRecDepth 100000 in
set_option maxHeartbeats 4000000 in
theorem line_ok {w : World} {B : Nat} {s : StR} (ht : Tab B w) (hr : ReadsA w B s.A s.rs) (hB : B ≤ w.heap.size) (hf : s.p.fit) (hk : s.p.ok) :
  Calls Tryz.prog 14 #[.agg s.cells] w (fun e w' => e = .returned (.tuple #[bs (lineT s.p), .int .i64 0]) ∧ Below w.heap.size w w') := by
 have hbx := Box.new w 25 s.cells
 have HC := Lib.hid (scheck_any (hr.alloc hB (.cells s.cells 25)) (Nat.le_trans hB hbx.2.size) hf (b := true) ⟨fun _ => hk, fun _ => rfl⟩)
 have Hk := Lib.hid (st_ok.1 hk)
 have Hr := Lib.hid (hr.more hB)
 have Ht := Lib.hid (ht.more hB)
 have HTold := Lib.hid (fun W (hb : Below w.heap.size w W) (r : ARow) (hm : r ∈ s.rs) => atold_any (Ht.out.below hb (Nat.le_refl _)) ((Hr.out.2 r hm).below hb) hb.size (Hk.out.2.2.2 r hm))
 obtain ⟨v, nm, A, c, rs⟩ := s
 have Hres := Lib.hid (show lineT (StR.p ⟨v, nm, A, c, rs⟩) = Lib.join (headT v nm ++ (rs.map (fun r => r.2.2)).map argT) [32] from rfl)
 have Hln := Lib.hid (line_len (v := v) (nm := nm) (l := rs.map (fun r => r.2.2)) Hk.out.1 Hk.out.2.1 (by rw [List.length_map]; exact Hk.out.2.2.1) (fun x hx => by obtain ⟨r, hr, rfl⟩ := List.mem_map.1 hx; exact Hk.out.2.2.2 r hr))
 simp only [StR.cells] at hbx HC Hk Hr HTold ⊢
 generalize lineT (StR.p ⟨v, nm, A, c, rs⟩) = T at *
 obtain ⟨n, hn⟩ : ∃ n, n = rs.length := ⟨_, rfl⟩
 have Hn := Lib.hid hn
 rw [← hn] at hbx HC ⊢
 clear hr hf hk hn ht hB
 by_cases he : nm = ⟨#[]⟩
 ·have hem := emp_yes he
  have Hhead := Lib.hid (show headT v nm = [v.data.toList] by unfold headT; rw [if_pos he])
  clear he
  go_enter Tryz.func14, Tryz.ntmps14
  go_wp2_with (go_at_call 16; (with_reducible refine HC.out.mono ?_); rintro _ W1 ⟨rfl, hb1⟩; have hbx := hbx.next hb1; have hlt := hbx.1.lt; have c0 := hbx.1.cell 0; have c1 := hbx.1.cell 1; have c2 := hbx.1.cell 2; clear hb1)
  go_loopg [5, 28] n (fun k lv iv wr => ∃ (i : Nat) (A' : Option Addr) (n' c' : Nat), lv = .slice A' n' c' ∧ iv = .int .i64 (i : Int) ∧ k = n - i ∧ i ≤ n ∧ Hid (OwnS wr w.heap.size (.slice A' n' c') (headT v nm ++ (rs.take i).map (fun r => argT r.2.2)) ∧ Below w.heap.size w wr))
  case atStart => exact ⟨0, _, _, _, rfl, rfl, by omega, by omega, Lib.hid (by rw [List.take_zero, List.map_nil, List.append_nil, Hhead.out]; exact ⟨OwnS.lit _ _ _ hbx.2.size, hbx.2.alloc hbx.2.size _⟩)⟩
  case round =>
   obtain ⟨i, A1, n1, c1, rfl, rfl, hk, hi, hO⟩ := hrel
   have Hk2 := Lib.hid hk
   clear hk
   have hn66 : n ≤ 64 := by have := Hk.out.2.2.1; rw [Hn.out]; exact this
   by_cases hin : i < n
   ·have hil : i < rs.length := by rw [← Hn.out]; exact hin
    obtain ⟨ad, rfl, hb1, ⟨d0, d1, d2, d3, d4, d5, d6, d7, d8, d9, d10, d11⟩, ha⟩ := (Hr.out.below hO.out.2).cells hil
    have HT := Lib.hid (fun W (hb : Below w.heap.size w W) => HTold.out W hb rs[i] (List.getElem_mem hil))
    have Hst := Lib.hid (show headT v nm ++ (rs.take (i + 1)).map (fun r => argT r.2.2) = (headT v nm ++ (rs.take i).map (fun r => argT r.2.2)) ++ [argT rs[i].2.2] by rw [List.take_succ_eq_append_getElem hil, List.map_append, List.append_assoc]; rfl)
    have hii : (i : Int) < (n : Int) := by omega
    have hlen : (headT v nm ++ (rs.take i).map (fun r => argT r.2.2)).length ≤ 100 := by
     rw [List.length_append, List.length_map, List.length_take]
     have := head_two v nm
     omega
    clear ha hb1
    generalize rs[i] = r at *
    clear hil
    obtain ⟨Ax, cx, x⟩ := r
    simp only [argV, bs] at HT
    simp only at d0 d1 d2 d3 d4 d5 d6 d7 d8 d9 d10 d11 Hst
    generalize argT x = q at *
    have Hbw := Lib.hid hO.out.2
    have Hba := Lib.hid (hO.out.2.alloc hO.out.2.size (.cells #[.int .i64 x.k, .string x.nm, .bool x.n0, .string x.s0, .bool x.n1, .string x.s1, .bool x.n2, .string x.s2, .bool x.n3, .string x.s3, .slice Ax x.wd.length cx, .int .i64 x.ct] 41))
    go_wp2_with fail
    refine (HT.out _ Hba.out).mono ?_
    rintro e w2 ⟨rfl, hb2⟩
    have Hb2 := Lib.hid hb2
    clear hb2
    have hsz := hO.out.2.size
    have hbs2 : w.heap.size ≤ w2.heap.size := Nat.le_trans Hba.out.size Hb2.out.size
    have hOwn := Lib.hid (((hO.out.1.alloc (.cells #[.int .i64 x.k, .string x.nm, .bool x.n0, .string x.s0, .bool x.n1, .string x.s1, .bool x.n2, .string x.s2, .bool x.n3, .string x.s3, .slice Ax x.wd.length cx, .int .i64 x.ct] 41)).kept Hb2.out).alloc (.cells #[bs q] 9))
    have hBel := Lib.hid ((Hba.out.trans (Hb2.out.mono Hba.out.size)).alloc hbs2 (.cells #[bs q] 9))
    have hlen2 : (headT v nm ++ (rs.take i).map (fun r => argT r.2.2)).length ≤ 1000000000 := Nat.le_trans hlen (by decide)
    have hbs3 : w.heap.size ≤ (w2.alloc (.cells #[bs q] 9)).heap.size := hBel.out.size
    go_wp2_with (refine wpS_append rfl (.tmp 32) (.tmp 35) rfl w.heap.size _ (headT v nm ++ (rs.take i).map (fun r => argT r.2.2)) [q] hOwn.out rfl rfl rfl (reads_singleS _ q) hlen2 (by simp) hbs3 ?_; intro A2 n2 c2 w3 ho2 hn2 hc2 hg2 hb3; have Ho2 := Lib.hid (And.intro ho2 (hb3 _ hBel.out)); clear ho2 hn2 hc2 hg2 hb3)
    go_roundg (n - (i + 1))
    case measure => have := Hk2.out; omega
    case rel => exact ⟨i + 1, A2, n2, c2, rfl, rfl, rfl, by omega, Lib.hid ⟨by rw [Hst.out]; exact Ho2.out.1, Ho2.out.2⟩⟩
   ·have hii : (n : Int) ≤ (i : Int) := by omega
    have ho := hO.out.1
    rw [List.take_of_length_le (by have := Hn.out; omega)] at ho
    have e2 : (rs.map (fun r => r.2.2)).map argT = rs.map (fun r => argT r.2.2) := by rw [List.map_map]; rfl
    have HJ := Lib.hid (join_allZ (A := A1) (n := n1) (c := c1) ho (by rw [List.length_append, List.length_map]; have := head_two v nm; have := Hn.out; omega) (by have h := Hln.out; rw [e2] at h; omega))
    rw [← e2] at HJ
    rw [← Hres.out] at HJ
    clear ho e2
    go_wp2_with fail
    refine HJ.out.mono ?_
    rintro e w2 ⟨rfl, hb2⟩
    have Hb2 := Lib.hid hb2
    clear hb2
    go_wp2_with fail
    go_ret2
    exact ⟨rfl, hO.out.2.trans (Hb2.out.mono hO.out.2.size)⟩
 ·have hem := emp_no he
  have Hhead := Lib.hid (show headT v nm = [v.data.toList] ++ [61 :: nm.data.toList] by unfold headT; rw [if_neg he]; rfl)
  have hnz : nm.size ≤ 100 := by
   rcases Hk.out.2.1 with h | h
   ·exact absurd h he
   ·unfold Sc.namedB at h
    simp only [Bool.and_eq_true, decide_eq_true_eq] at h
    have : nm.data.toList.length = nm.size := Array.length_toList
    omega
  have Hcat := Lib.hid (show (.string (⟨#[61]⟩ ++ nm) : Value) = bs (61 :: nm.data.toList) by unfold bs; congr 1)
  clear he
  go_enter Tryz.func14, Tryz.ntmps14
  go_wp2_with (go_at_call 16; (with_reducible refine HC.out.mono ?_); rintro _ W1 ⟨rfl, hb1⟩; have hbx := hbx.next hb1; have hlt := hbx.1.lt; have hlt1 : w.heap.size < W1.heap.size + 1 := Nat.lt_succ_of_lt hlt; have hlt2 : w.heap.size < W1.heap.size + 1 + 1 := Nat.lt_succ_of_lt hlt1; have c0 := hbx.1.cell 0; have c1 := hbx.1.cell 1; have c2 := hbx.1.cell 2; clear hb1)
  go_loopg [5, 28] n (fun k lv iv wr => ∃ (i : Nat) (A' : Option Addr) (n' c' : Nat), lv = .slice A' n' c' ∧ iv = .int .i64 (i : Int) ∧ k = n - i ∧ i ≤ n ∧ Hid (OwnS wr w.heap.size (.slice A' n' c') (headT v nm ++ (rs.take i).map (fun r => argT r.2.2)) ∧ Below w.heap.size w wr))
  case atStart => exact ⟨0, _, _, _, rfl, rfl, by omega, by omega, Lib.hid (by rw [List.take_zero, List.map_nil, List.append_nil, Hhead.out]; exact ⟨own_two _ _ _ _ _ hbx.2.size Hcat.out, own_two_below hbx.2⟩)⟩
  case round =>
   obtain ⟨i, A1, n1, c1, rfl, rfl, hk, hi, hO⟩ := hrel
   have Hk2 := Lib.hid hk
   clear hk
   have hn66 : n ≤ 64 := by have := Hk.out.2.2.1; rw [Hn.out]; exact this
   by_cases hin : i < n
   ·have hil : i < rs.length := by rw [← Hn.out]; exact hin
    obtain ⟨ad, rfl, hb1, ⟨d0, d1, d2, d3, d4, d5, d6, d7, d8, d9, d10, d11⟩, ha⟩ := (Hr.out.below hO.out.2).cells hil
    have HT := Lib.hid (fun W (hb : Below w.heap.size w W) => HTold.out W hb rs[i] (List.getElem_mem hil))
    have Hst := Lib.hid (show headT v nm ++ (rs.take (i + 1)).map (fun r => argT r.2.2) = (headT v nm ++ (rs.take i).map (fun r => argT r.2.2)) ++ [argT rs[i].2.2] by rw [List.take_succ_eq_append_getElem hil, List.map_append, List.append_assoc]; rfl)
    have hii : (i : Int) < (n : Int) := by omega
    have hlen : (headT v nm ++ (rs.take i).map (fun r => argT r.2.2)).length ≤ 100 := by
     rw [List.length_append, List.length_map, List.length_take]
     have := head_two v nm
     omega
    clear ha hb1
    generalize rs[i] = r at *
    clear hil
    obtain ⟨Ax, cx, x⟩ := r
    simp only [argV, bs] at HT
    simp only at d0 d1 d2 d3 d4 d5 d6 d7 d8 d9 d10 d11 Hst
    generalize argT x = q at *
    have Hbw := Lib.hid hO.out.2
    have Hba := Lib.hid (hO.out.2.alloc hO.out.2.size (.cells #[.int .i64 x.k, .string x.nm, .bool x.n0, .string x.s0, .bool x.n1, .string x.s1, .bool x.n2, .string x.s2, .bool x.n3, .string x.s3, .slice Ax x.wd.length cx, .int .i64 x.ct] 41))
    go_wp2_with fail
    refine (HT.out _ Hba.out).mono ?_
    rintro e w2 ⟨rfl, hb2⟩
    have Hb2 := Lib.hid hb2
    clear hb2
    have hsz := hO.out.2.size
    have hbs2 : w.heap.size ≤ w2.heap.size := Nat.le_trans Hba.out.size Hb2.out.size
    have hOwn := Lib.hid (((hO.out.1.alloc (.cells #[.int .i64 x.k, .string x.nm, .bool x.n0, .string x.s0, .bool x.n1, .string x.s1, .bool x.n2, .string x.s2, .bool x.n3, .string x.s3, .slice Ax x.wd.length cx, .int .i64 x.ct] 41)).kept Hb2.out).alloc (.cells #[bs q] 9))
    have hBel := Lib.hid ((Hba.out.trans (Hb2.out.mono Hba.out.size)).alloc hbs2 (.cells #[bs q] 9))
    have hlen2 : (headT v nm ++ (rs.take i).map (fun r => argT r.2.2)).length ≤ 1000000000 := Nat.le_trans hlen (by decide)
    have hbs3 : w.heap.size ≤ (w2.alloc (.cells #[bs q] 9)).heap.size := hBel.out.size
    go_wp2_with (refine wpS_append rfl (.tmp 32) (.tmp 35) rfl w.heap.size _ (headT v nm ++ (rs.take i).map (fun r => argT r.2.2)) [q] hOwn.out rfl rfl rfl (reads_singleS _ q) hlen2 (by simp) hbs3 ?_; intro A2 n2 c2 w3 ho2 hn2 hc2 hg2 hb3; have Ho2 := Lib.hid (And.intro ho2 (hb3 _ hBel.out)); clear ho2 hn2 hc2 hg2 hb3)
    go_roundg (n - (i + 1))
    case measure => have := Hk2.out; omega
    case rel => exact ⟨i + 1, A2, n2, c2, rfl, rfl, rfl, by omega, Lib.hid ⟨by rw [Hst.out]; exact Ho2.out.1, Ho2.out.2⟩⟩
   ·have hii : (n : Int) ≤ (i : Int) := by omega
    have ho := hO.out.1
    rw [List.take_of_length_le (by have := Hn.out; omega)] at ho
    have e2 : (rs.map (fun r => r.2.2)).map argT = rs.map (fun r => argT r.2.2) := by rw [List.map_map]; rfl
    have HJ := Lib.hid (join_allZ (A := A1) (n := n1) (c := c1) ho (by rw [List.length_append, List.length_map]; have := head_two v nm; have := Hn.out; omega) (by have h := Hln.out; rw [e2] at h; omega))
    rw [← e2] at HJ
    rw [← Hres.out] at HJ
    clear ho e2
    go_wp2_with fail
    refine HJ.out.mono ?_
    rintro e w2 ⟨rfl, hb2⟩
    have Hb2 := Lib.hid hb2
    clear hb2
    go_wp2_with fail
    go_ret2
    exact ⟨rfl, hO.out.2.trans (Hb2.out.mono hO.out.2.size)⟩
set_option maxRecDepth 100000 in
set_option maxHeartbeats 2000000 in
theorem rline_bad {w : World} {B : Nat} {s : StR} (hr : ReadsA w B s.A s.rs) (hB : B ≤ w.heap.size) (hf : s.p.fit) (hk : ¬ s.p.ok) :
  Calls Tryz.prog 15 #[.agg s.cells] w (fun e w' => e = .returned (.tuple #[.string ⟨#[]⟩, .int .i64 2]) ∧ Below w.heap.size w w') := by
 have hbx := Box.new w 25 s.cells
 have HC := Lib.hid (rscheck_any (hr.alloc hB (.cells s.cells 25)) (Nat.le_trans hB hbx.2.size) hf (b := false) ⟨fun h => (by cases h), fun h => absurd h hk⟩)
 unfold StR.cells at hbx HC ⊢
 have hb := hbx.2
 clear hr hf hk hbx
 go_enter Tryz.func15, Tryz.ntmps15
 go_wp2_with (go_at_call 17; (with_reducible refine HC.out.mono ?_); rintro _ _ ⟨rfl, hb1⟩)
 go_ret2
 exact ⟨rfl, hb.trans (hb1.mono hb.size)⟩
set_option maxRecDepth 100000 in
set_option maxHeartbeats 4000000 in
theorem rline_ok {w : World} {B : Nat} {s : StR} (ht : Tab B w) (hr : ReadsA w B s.A s.rs) (hB : B ≤ w.heap.size) (hf : s.p.fit) (hk : s.p.ok) :
  Calls Tryz.prog 15 #[.agg s.cells] w (fun e w' => e = .returned (.tuple #[bs (lineT s.p), .int .i64 0]) ∧ Below w.heap.size w w') := by
 have hbx := Box.new w 25 s.cells
 have HC := Lib.hid (rscheck_any (hr.alloc hB (.cells s.cells 25)) (Nat.le_trans hB hbx.2.size) hf (b := true) ⟨fun _ => hk, fun _ => rfl⟩)
 have Hk := Lib.hid (st_ok.1 hk)
 have Hr := Lib.hid (hr.more hB)
 have Ht := Lib.hid (ht.more hB)
 have HTold := Lib.hid (fun W (hb : Below w.heap.size w W) (r : ARow) (hm : r ∈ s.rs) => ratold_any (Ht.out.below hb (Nat.le_refl _)) ((Hr.out.2 r hm).below hb) hb.size (Hk.out.2.2.2 r hm))
 obtain ⟨v, nm, A, c, rs⟩ := s
 have Hres := Lib.hid (show lineT (StR.p ⟨v, nm, A, c, rs⟩) = Lib.join (headT v nm ++ (rs.map (fun r => r.2.2)).map argT) [32] from rfl)
 have Hlen : Hid (∀ i, (Lib.join (headT v nm ++ (rs.take i).map (fun r => argT r.2.2)) [32]).length ≤ 200000000) := Lib.hid fun i => by
  have h := line_len (v := v) (nm := nm) (l := (rs.take i).map (fun r => r.2.2)) Hk.out.1 Hk.out.2.1 (by rw [List.length_map, List.length_take]; have : rs.length ≤ 64 := Hk.out.2.2.1; omega) (fun x hx => by obtain ⟨r, hr, rfl⟩ := List.mem_map.1 hx; exact Hk.out.2.2.2 r (List.mem_of_mem_take hr))
  rw [List.map_map] at h
  exact h
 simp only [StR.cells] at hbx HC Hk Hr HTold ⊢
 generalize lineT (StR.p ⟨v, nm, A, c, rs⟩) = T at *
 obtain ⟨n, hn⟩ : ∃ n, n = rs.length := ⟨_, rfl⟩
 have Hn := Lib.hid hn
 rw [← hn] at hbx HC ⊢
 clear hr hf hk hn ht hB
 have hvs : v.size ≤ 100 := by
  have h := Hk.out.1
  unfold Sc.lettersB at h
  simp only [Bool.and_eq_true, decide_eq_true_eq] at h
  have : v.data.toList.length = v.size := Array.length_toList
  omega
 by_cases he : nm = ⟨#[]⟩
 ·have hem := emp_yes he
  have Hhead := Lib.hid (show headT v nm = [v.data.toList] by unfold headT; rw [if_pos he])
  clear he
  go_enter Tryz.func15, Tryz.ntmps15
  go_wp2_with (go_at_call 17; (with_reducible refine HC.out.mono ?_); rintro _ W1 ⟨rfl, hb1⟩; have hbx := hbx.next hb1; have c0 := hbx.1.cell 0; have c1 := hbx.1.cell 1; have c2 := hbx.1.cell 2; clear hb1)
  go_loopg [4, 5] n (fun k sv iv wr => ∃ (i : Nat) (S : ByteArray), sv = .string S ∧ iv = .int .i64 (i : Int) ∧ k = n - i ∧ i ≤ n ∧ S.size ≤ 200000000 ∧ Hid (S = ⟨(Lib.join (headT v nm ++ (rs.take i).map (fun r => argT r.2.2)) [32]).toArray⟩) ∧ Hid (Box w wr 25 #[.string v, .string nm, .slice A n c]))
  case atStart => exact ⟨0, _, rfl, rfl, by omega, by omega, by omega, Lib.hid (by rw [List.take_zero, List.map_nil, List.append_nil, Hhead.out]; rw [Lib.join_one]), Lib.hid hbx⟩
  case round =>
   obtain ⟨i, S, rfl, rfl, hk, hi, hS, hSe, hO⟩ := hrel
   have Hk2 := Lib.hid hk
   clear hk hbx c0 c1 c2
   have b0 := hO.out.1.cell 0
   have b1 := hO.out.1.cell 1
   have b2 := hO.out.1.cell 2
   have hn66 : n ≤ 64 := by have := Hk.out.2.2.1; rw [Hn.out]; exact this
   by_cases hin : i < n
   ·have hil : i < rs.length := by rw [← Hn.out]; exact hin
    obtain ⟨ad, rfl, hb1, ⟨d0, d1, d2, d3, d4, d5, d6, d7, d8, d9, d10, d11⟩, ha⟩ := (Hr.out.below hO.out.2).cells hil
    have HT := Lib.hid (HTold.out wr hO.out.2 rs[i] (List.getElem_mem hil))
    have Hst := Lib.hid (show headT v nm ++ (rs.take (i + 1)).map (fun r => argT r.2.2) = (headT v nm ++ (rs.take i).map (fun r => argT r.2.2)) ++ [argT rs[i].2.2] by rw [List.take_succ_eq_append_getElem hil, List.map_append, List.append_assoc]; rfl)
    have hq := argT_len (Hk.out.2.2.2 _ (List.getElem_mem hil))
    have Hsz := Lib.hid (Hlen.out (i + 1))
    have hii : (i : Int) < (n : Int) := by omega
    clear ha hb1
    generalize rs[i] = r at *
    clear hil
    obtain ⟨Ax, cx, x⟩ := r
    simp only [argV, bs] at HT
    simp only at d0 d1 d2 d3 d4 d5 d6 d7 d8 d9 d10 d11 Hst hq
    generalize argT x = q at *
    obtain ⟨D, hD⟩ : ∃ D : ByteArray, D = ⟨q.toArray⟩ := ⟨_, rfl⟩
    have hDs : D.size ≤ 2300000 := by rw [hD]; exact bs_sz hq
    have Hnew := Lib.hid (show S ++ ⟨#[32]⟩ ++ D = ⟨(Lib.join (headT v nm ++ (rs.take (i + 1)).map (fun r => argT r.2.2)) [32]).toArray⟩ by
     rw [Hst.out, join_snoc (head_ne _ _ _), hSe.out, hD]
     apply ByteArray.ext
     simp)
    rw [← hD] at HT
    clear hD hq
    go_wp2_with fail
    refine HT.out.mono ?_
    rintro e w3 ⟨rfl, hb3⟩
    have Hb3 := Lib.hid hb3
    clear hb3
    go_wp2_with fail
    go_roundg (n - (i + 1))
    case measure => have := Hk2.out; omega
    case rel => exact ⟨i + 1, _, rfl, rfl, rfl, by omega, by rw [Hnew.out]; exact bs_sz Hsz.out, Lib.hid Hnew.out, Lib.hid (hO.out.next Hb3.out)⟩
   ·have hii : (n : Int) ≤ (i : Int) := by omega
    have e2 : (rs.map (fun r => r.2.2)).map argT = rs.map (fun r => argT r.2.2) := by rw [List.map_map]; rfl
    have HT := Lib.hid (show (.string S : Value) = bs T by
     rw [hSe.out, Hres.out, e2, List.take_of_length_le (by have := Hn.out; omega)]
     rfl)
    clear e2
    go_wp2_with fail
    go_ret2
    exact ⟨by rw [← HT.out]; rfl, hO.out.2⟩
 ·have hem := emp_no he
  have Hhead := Lib.hid (show headT v nm = [v.data.toList] ++ [61 :: nm.data.toList] by unfold headT; rw [if_neg he]; rfl)
  have hnz : nm.size ≤ 100 := by
   rcases Hk.out.2.1 with h | h
   ·exact absurd h he
   ·unfold Sc.namedB at h
    simp only [Bool.and_eq_true, decide_eq_true_eq] at h
    have : nm.data.toList.length = nm.size := Array.length_toList
    omega
  clear he
  go_enter Tryz.func15, Tryz.ntmps15
  go_wp2_with (go_at_call 17; (with_reducible refine HC.out.mono ?_); rintro _ W1 ⟨rfl, hb1⟩; have hbx := hbx.next hb1; have c0 := hbx.1.cell 0; have c1 := hbx.1.cell 1; have c2 := hbx.1.cell 2; clear hb1)
  go_loopg [4, 5] n (fun k sv iv wr => ∃ (i : Nat) (S : ByteArray), sv = .string S ∧ iv = .int .i64 (i : Int) ∧ k = n - i ∧ i ≤ n ∧ S.size ≤ 200000000 ∧ Hid (S = ⟨(Lib.join (headT v nm ++ (rs.take i).map (fun r => argT r.2.2)) [32]).toArray⟩) ∧ Hid (Box w wr 25 #[.string v, .string nm, .slice A n c]))
  case atStart => exact ⟨0, _, rfl, rfl, by omega, by omega, by simp [ByteArray.size_append]; have : (⟨#[32, 61]⟩ : ByteArray).size = 2 := rfl; omega, Lib.hid (by rw [List.take_zero, List.map_nil, List.append_nil, Hhead.out]; rw [join_snoc (by simp), Lib.join_one]; apply ByteArray.ext; simp), Lib.hid hbx⟩
  case round =>
   obtain ⟨i, S, rfl, rfl, hk, hi, hS, hSe, hO⟩ := hrel
   have Hk2 := Lib.hid hk
   clear hk hbx c0 c1 c2
   have b0 := hO.out.1.cell 0
   have b1 := hO.out.1.cell 1
   have b2 := hO.out.1.cell 2
   have hn66 : n ≤ 64 := by have := Hk.out.2.2.1; rw [Hn.out]; exact this
   by_cases hin : i < n
   ·have hil : i < rs.length := by rw [← Hn.out]; exact hin
    obtain ⟨ad, rfl, hb1, ⟨d0, d1, d2, d3, d4, d5, d6, d7, d8, d9, d10, d11⟩, ha⟩ := (Hr.out.below hO.out.2).cells hil
    have HT := Lib.hid (HTold.out wr hO.out.2 rs[i] (List.getElem_mem hil))
    have Hst := Lib.hid (show headT v nm ++ (rs.take (i + 1)).map (fun r => argT r.2.2) = (headT v nm ++ (rs.take i).map (fun r => argT r.2.2)) ++ [argT rs[i].2.2] by rw [List.take_succ_eq_append_getElem hil, List.map_append, List.append_assoc]; rfl)
    have hq := argT_len (Hk.out.2.2.2 _ (List.getElem_mem hil))
    have Hsz := Lib.hid (Hlen.out (i + 1))
    have hii : (i : Int) < (n : Int) := by omega
    clear ha hb1
    generalize rs[i] = r at *
    clear hil
    obtain ⟨Ax, cx, x⟩ := r
    simp only [argV, bs] at HT
    simp only at d0 d1 d2 d3 d4 d5 d6 d7 d8 d9 d10 d11 Hst hq
    generalize argT x = q at *
    obtain ⟨D, hD⟩ : ∃ D : ByteArray, D = ⟨q.toArray⟩ := ⟨_, rfl⟩
    have hDs : D.size ≤ 2300000 := by rw [hD]; exact bs_sz hq
    have Hnew := Lib.hid (show S ++ ⟨#[32]⟩ ++ D = ⟨(Lib.join (headT v nm ++ (rs.take (i + 1)).map (fun r => argT r.2.2)) [32]).toArray⟩ by
     rw [Hst.out, join_snoc (head_ne _ _ _), hSe.out, hD]
     apply ByteArray.ext
     simp)
    rw [← hD] at HT
    clear hD hq
    go_wp2_with fail
    refine HT.out.mono ?_
    rintro e w3 ⟨rfl, hb3⟩
    have Hb3 := Lib.hid hb3
    clear hb3
    go_wp2_with fail
    go_roundg (n - (i + 1))
    case measure => have := Hk2.out; omega
    case rel => exact ⟨i + 1, _, rfl, rfl, rfl, by omega, by rw [Hnew.out]; exact bs_sz Hsz.out, Lib.hid Hnew.out, Lib.hid (hO.out.next Hb3.out)⟩
   ·have hii : (n : Int) ≤ (i : Int) := by omega
    have e2 : (rs.map (fun r => r.2.2)).map argT = rs.map (fun r => argT r.2.2) := by rw [List.map_map]; rfl
    have HT := Lib.hid (show (.string S : Value) = bs T by
     rw [hSe.out, Hres.out, e2, List.take_of_length_le (by have := Hn.out; omega)]
     rfl)
    clear e2
    go_wp2_with fail
    go_ret2
    exact ⟨by rw [← HT.out]; rfl, hO.out.2⟩
end Go.Proofs.YtebpggfccljagaaGreatDoor
