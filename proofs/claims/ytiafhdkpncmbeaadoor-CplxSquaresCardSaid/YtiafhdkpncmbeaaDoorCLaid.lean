/- CplxSquares: what the row lists, opened; a world for the witness. -/
import Derived.Test.YtiafhdkpncmbeaaDoorFrame
import Derived.Test.YtiafhdkpncmbeaaDoorFb
import Derived.Test.YtiafhdkpncmbeaaDoorCards
import Derived.Test.YtiafhdkpncmbeaaDoorTie
import Derived.Deep.DeepHandedRow
import Derived.Lib.LaidTab
import Derived.Lib.AppendIntMem
import Derived.ChangeSlices
import Derived.LaidSub
import Derived.MakeChecks
import Derived.Stop.LaidErr
namespace Go.Proofs.YtiafhdkpncmbeaaDoor.Laid
open Go.ChangeShapes Go.WideShapes Go.ChangeAt Go.RowKit

def L5 : List (String × DataW Unit) := [("math/bits.deBruijn32tab", Rows.laid_math_bits_deBruijn32tab), ("math/bits.deBruijn64tab", Rows.laid_math_bits_deBruijn64tab), ("internal/strconv.uint64pow10", Rows.laid_internal_strconv_uint64pow10), ("strconv.ErrRange", Rows.laid_strconv_ErrRange), ("strconv.ErrSyntax", Rows.laid_strconv_ErrSyntax)]
theorem gTz : Tryd.prog.globalNamed "math/bits.deBruijn64tab" = some 5 := by kernel_rfl
theorem gTzType : (Tryd.prog.globals[5]?).map (·.type) = some 93 := by kernel_rfl
theorem cells93 : Tryd.prog.cellsOf 93 = 64 := by kernel_rfl
theorem cells5 : Tryd.prog.cellsOf 5 = 1 := by kernel_rfl
def dbTab : List Int := [0, 1, 56, 2, 57, 49, 28, 3, 61, 58, 42, 50, 38, 29, 17, 4, 62, 47, 59, 36, 45, 43, 51, 22, 53, 39, 33, 30, 24, 18, 12, 5, 63, 55, 48, 27, 60, 41, 37, 16, 46, 35, 44, 21, 52, 32, 23, 11, 54, 26, 40, 15, 34, 20, 31, 10, 25, 14, 19, 9, 13, 8, 7, 6]
theorem db_is : Rows.laid_math_bits_deBruijn64tab (H := Unit) = Lib.tabData .u8 dbTab := by kernel_rfl
theorem tz5 {W : World} (h : laidMetH Tryd.prog L5 W) : Tz W.heap.size W := by
  have h1 := h.filter (fun x => x.1 == "math/bits.deBruijn64tab")
  have e : L5.filter (fun x => x.1 == "math/bits.deBruijn64tab") = [("math/bits.deBruijn64tab", Lib.tabData .u8 dbTab)] := by
    rw [← db_is]
    rfl
  rw [e, Go.MakeChecks.laidMetH_plain _ _ _ (by kernel_rfl)] at h1
  have ht : Lib.TabIs Tryd.prog W "math/bits.deBruijn64tab" .u8 dbTab := Lib.tabIs_of_head (rest := []) gTz gTzType Tryd.underlying93 Tryd.underlying5 cells5 cells93 h1
  intro w' hb
  exact (Lib.tabBelow_of_tabIs ht w' hb).cell gTz 15 (by decide)
def tab32 : Array Value := #[0, 1, 28, 2, 29, 14, 24, 3, 30, 22, 20, 15, 25, 17, 4, 8, 31, 27, 13, 23, 21, 19, 16, 7, 26, 12, 18, 6, 11, 5, 10, 9].map (Value.int .u8)
def tab64 : Array Value := dbTab.toArray.map (Value.int .u8)
def tabPow : Array Value := ((List.range 20).map fun i => Value.int .u64 ((10 ^ i : Nat) : Int)).toArray
def synS : ByteArray := ⟨#[105, 110, 118, 97, 108, 105, 100, 32, 115, 121, 110, 116, 97, 120]⟩
def rngS : ByteArray := ⟨#[118, 97, 108, 117, 101, 32, 111, 117, 116, 32, 111, 102, 32, 114, 97, 110, 103, 101]⟩
noncomputable def low : Nat := (World.holding Tryd.prog default ⟨#[], #[], []⟩).heap.size
def put (g : Nat) (cs : Array Value) (h : Array Obj) : Array Obj := h.modify g (fun o => match o with | .cells _ t frozen => .cells cs t frozen | o => o)
noncomputable def laidWorld5 (os : Os) : World :=
  { World.holding Tryd.prog os ⟨#[.cells #[.string synS] 89, .cells #[.string rngS] 89], #[], []⟩ with heap := put 1 #[.iface 87 (.pointer (some ⟨low, 0, none⟩))] (put 2 #[.iface 87 (.pointer (some ⟨low + 1, 0, none⟩))] (put 3 tabPow (put 4 tab32 (put 5 tab64 (World.holding Tryd.prog os ⟨#[.cells #[.string synS] 89, .cells #[.string rngS] 89], #[], []⟩).heap)))) }
end Go.Proofs.YtiafhdkpncmbeaaDoor.Laid
