/- Closed facts on the types of this seat's program. -/
import Derived.Test.YtgeehnbbhnpimaaProg
import Derived.Test.YtgeehnbbhnpimaaMD
import Derived.KernelRfl
namespace Go.Proofs
open Go Go.Abs
@[simp] theorem Try.rd24 : rdT Try.prog 24 = some (some 2) := by kernel_rfl
@[simp] theorem Try.isPtr26 : isPtrT Try.prog 26 = false := by kernel_rfl
@[simp] theorem Try.zero24 : zeroT Try.prog 24 = some (.agg #[(.string ByteArray.empty), (.slice none 0 0)]) := by kernel_rfl
@[simp] theorem Try.sz24 : szT Try.prog 24 = some 2 := by kernel_rfl
@[simp] theorem Try.el22 : elT Try.prog 22 = some (2, 40, [(.string ByteArray.empty), (.slice none 0 0)]) := by kernel_rfl
@[simp] theorem Try.zero3 : zeroT Try.prog 3 = some (.int .i64 0) := by kernel_rfl
@[simp] theorem Try.sz3 : szT Try.prog 3 = some 1 := by kernel_rfl
@[simp] theorem Try.rd3 : rdT Try.prog 3 = some none := by kernel_rfl
@[simp] theorem Try.isPtr3 : isPtrT Try.prog 3 = false := by kernel_rfl
@[simp] theorem Try.fld47_1 : fldT Try.prog 47 1 = some 1 := by kernel_rfl
@[simp] theorem Try.rd44 : rdT Try.prog 44 = some none := by kernel_rfl
@[simp] theorem Try.isStr44 : isStrT Try.prog 44 = false := by kernel_rfl
@[simp] theorem Try.isSl44 : isSliceT Try.prog 44 = false := by kernel_rfl
@[simp] theorem Try.isMap44 : isMapT Try.prog 44 = true := by kernel_rfl
@[simp] theorem Try.isPtr9 : isPtrT Try.prog 9 = false := by kernel_rfl
@[simp] theorem Try.fld47_2 : fldT Try.prog 47 2 = some 2 := by kernel_rfl
@[simp] theorem Try.rd42 : rdT Try.prog 42 = some none := by kernel_rfl
@[simp] theorem Try.mp42 : mapT Try.prog 42 = some (.string, (.agg #[(.string ByteArray.empty), (.slice none 0 0)])) := by kernel_rfl
@[simp] theorem Try.fldV24_0 : fldV Try.prog 24 0 = some (0, none) := by kernel_rfl
@[simp] theorem Try.isStr9 : isStrT Try.prog 9 = true := by kernel_rfl
@[simp] theorem Try.isSl9 : isSliceT Try.prog 9 = false := by kernel_rfl
@[simp] theorem Try.isMap9 : isMapT Try.prog 9 = false := by kernel_rfl
@[simp] theorem Try.bld24 : bldT Try.prog 24 = some ([(.string ByteArray.empty), (.slice none 0 0)], [(0, 1), (1, 1)]) := by kernel_rfl
@[simp] theorem Try.isStr25 : isStrT Try.prog 25 = false := by kernel_rfl
@[simp] theorem Try.isSl25 : isSliceT Try.prog 25 = true := by kernel_rfl
@[simp] theorem Try.isMap25 : isMapT Try.prog 25 = false := by kernel_rfl
@[simp] theorem Try.el25 : elT Try.prog 25 = some (3, 56, [(.string ByteArray.empty), (.string ByteArray.empty), (.slice none 0 0)]) := by kernel_rfl
@[simp] theorem Try.rd53 : rdT Try.prog 53 = some (some 3) := by kernel_rfl
@[simp] theorem Try.zero53 : zeroT Try.prog 53 = some (.agg #[(.string ByteArray.empty), (.string ByteArray.empty), (.slice none 0 0)]) := by kernel_rfl
@[simp] theorem Try.sz53 : szT Try.prog 53 = some 3 := by kernel_rfl
@[simp] theorem Try.fld53_0 : fldT Try.prog 53 0 = some 0 := by kernel_rfl
@[simp] theorem Try.rd9 : rdT Try.prog 9 = some none := by kernel_rfl
@[simp] theorem Try.fld53_1 : fldT Try.prog 53 1 = some 1 := by kernel_rfl
@[simp] theorem Try.fld24_0 : fldT Try.prog 24 0 = some 0 := by kernel_rfl
@[simp] theorem Try.fld24_1 : fldT Try.prog 24 1 = some 1 := by kernel_rfl
@[simp] theorem Try.rd22 : rdT Try.prog 22 = some none := by kernel_rfl
@[simp] theorem Try.isStr22 : isStrT Try.prog 22 = false := by kernel_rfl
@[simp] theorem Try.isSl22 : isSliceT Try.prog 22 = true := by kernel_rfl
@[simp] theorem Try.isMap22 : isMapT Try.prog 22 = false := by kernel_rfl
@[simp] theorem Try.bld53 : bldT Try.prog 53 = some ([(.string ByteArray.empty), (.string ByteArray.empty), (.slice none 0 0)], [(0, 1), (1, 2)]) := by kernel_rfl
@[simp] theorem Try.zero44 : zeroT Try.prog 44 = some (.map none) := by kernel_rfl
@[simp] theorem Try.sz44 : szT Try.prog 44 = some 1 := by kernel_rfl
@[simp] theorem Try.zero56 : zeroT Try.prog 56 = some .nilFunc := by kernel_rfl
@[simp] theorem Try.sz56 : szT Try.prog 56 = some 1 := by kernel_rfl
@[simp] theorem Try.rd56 : rdT Try.prog 56 = some none := by kernel_rfl
@[simp] theorem Try.bld47 : bldT Try.prog 47 = some ([(.map none), (.map none), (.map none), (.map none)], [(0, 1), (1, 1), (2, 1), (3, 1)]) := by kernel_rfl
@[simp] theorem Try.isStr64 : isStrT Try.prog 64 = false := by kernel_rfl
@[simp] theorem Try.isSl64 : isSliceT Try.prog 64 = true := by kernel_rfl
@[simp] theorem Try.isMap64 : isMapT Try.prog 64 = false := by kernel_rfl
@[simp] theorem Try.el64 : elT Try.prog 64 = some (1, 16, [(.string ByteArray.empty)]) := by kernel_rfl
@[simp] theorem Try.fld47_0 : fldT Try.prog 47 0 = some 0 := by kernel_rfl
@[simp] theorem Try.rd43 : rdT Try.prog 43 = some none := by kernel_rfl
@[simp] theorem Try.mp43 : mapT Try.prog 43 = some (.string, (.int .i64 0)) := by kernel_rfl
@[simp] theorem Try.mp44 : mapT Try.prog 44 = some (.string, (.string ByteArray.empty)) := by kernel_rfl
@[simp] theorem Try.zero43 : zeroT Try.prog 43 = some (.map none) := by kernel_rfl
@[simp] theorem Try.sz43 : szT Try.prog 43 = some 1 := by kernel_rfl
@[simp] theorem Try.zero67 : zeroT Try.prog 67 = some .nilFunc := by kernel_rfl
@[simp] theorem Try.sz67 : szT Try.prog 67 = some 1 := by kernel_rfl
@[simp] theorem Try.rd37 : rdT Try.prog 37 = some none := by kernel_rfl
@[simp] theorem Try.rd67 : rdT Try.prog 67 = some none := by kernel_rfl
@[simp] theorem Try.notInt22 : notInt Try.prog 22 = true := by kernel_rfl
@[simp] theorem Try.sz22 : szT Try.prog 22 = some 1 := by kernel_rfl
@[simp] theorem Try.zero69 : zeroT Try.prog 69 = some .nilFunc := by kernel_rfl
@[simp] theorem Try.sz69 : szT Try.prog 69 = some 1 := by kernel_rfl
@[simp] theorem Try.rd69 : rdT Try.prog 69 = some none := by kernel_rfl
@[simp] theorem Try.isStr42 : isStrT Try.prog 42 = false := by kernel_rfl
@[simp] theorem Try.isSl42 : isSliceT Try.prog 42 = false := by kernel_rfl
@[simp] theorem Try.isMap42 : isMapT Try.prog 42 = true := by kernel_rfl
@[simp] theorem Try.notInt25 : notInt Try.prog 25 = true := by kernel_rfl
@[simp] theorem Try.zero4 : zeroT Try.prog 4 = some (.bool false) := by kernel_rfl
@[simp] theorem Try.sz4 : szT Try.prog 4 = some 1 := by kernel_rfl
@[simp] theorem Try.rd4 : rdT Try.prog 4 = some none := by kernel_rfl
@[simp] theorem Try.zero64 : zeroT Try.prog 64 = some (.slice none 0 0) := by kernel_rfl
@[simp] theorem Try.zero45 : zeroT Try.prog 45 = some (.map none) := by kernel_rfl
@[simp] theorem Try.sz45 : szT Try.prog 45 = some 1 := by kernel_rfl
@[simp] theorem Try.rd64 : rdT Try.prog 64 = some none := by kernel_rfl
@[simp] theorem Try.isPtr5 : isPtrT Try.prog 5 = false := by kernel_rfl
@[simp] theorem Try.rd45 : rdT Try.prog 45 = some none := by kernel_rfl
@[simp] theorem Try.mp45 : mapT Try.prog 45 = some (.string, (.bool false)) := by kernel_rfl
@[simp] theorem Try.notInt64 : notInt Try.prog 64 = true := by kernel_rfl
@[simp] theorem Try.sz64 : szT Try.prog 64 = some 1 := by kernel_rfl
@[simp] theorem Try.fld47_3 : fldT Try.prog 47 3 = some 3 := by kernel_rfl
theorem Try.mixed : Try.prog.follows .mixedOrders = true := by kernel_rfl
end Go.Proofs
