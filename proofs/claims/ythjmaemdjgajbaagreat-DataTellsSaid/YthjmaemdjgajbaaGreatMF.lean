/- Closed facts on the types of this seat's program. -/
import Derived.Test.YthjmaemdjgajbaaGreatProg
import Derived.Test.YthjmaemdjgajbaaGreatMD
import Derived.KernelRfl
set_option linter.unusedVariables false
set_option linter.unusedSimpArgs false
namespace Go.Proofs
open Go Go.Abs
@[simp] theorem Tryz.rd26 : rdT Tryz.prog 26 = some (some 3) := by kernel_rfl
@[simp] theorem Tryz.zero33 : zeroT Tryz.prog 33 = some (.agg #[(.string ByteArray.empty), (.slice none 0 0), (.slice none 0 0)]) := by kernel_rfl
@[simp] theorem Tryz.sz33 : szT Tryz.prog 33 = some 3 := by kernel_rfl
@[simp] theorem Tryz.isPtr34 : isPtrT Tryz.prog 34 = false := by kernel_rfl
@[simp] theorem Tryz.rd33 : rdT Tryz.prog 33 = some (some 3) := by kernel_rfl
@[simp] theorem Tryz.el22 : elT Tryz.prog 22 = some (3, 64, [(.string ByteArray.empty), (.slice none 0 0), (.slice none 0 0)]) := by kernel_rfl
@[simp] theorem Tryz.isPtr3 : isPtrT Tryz.prog 3 = false := by kernel_rfl
@[simp] theorem Tryz.rd29 : rdT Tryz.prog 29 = some (some 2) := by kernel_rfl
@[simp] theorem Tryz.fld47_0 : fldT Tryz.prog 47 0 = some 0 := by kernel_rfl
@[simp] theorem Tryz.rd3 : rdT Tryz.prog 3 = some none := by kernel_rfl
@[simp] theorem Tryz.fld47_1 : fldT Tryz.prog 47 1 = some 1 := by kernel_rfl
@[simp] theorem Tryz.isPtr4 : isPtrT Tryz.prog 4 = false := by kernel_rfl
@[simp] theorem Tryz.bld33 : bldT Tryz.prog 33 = some ([(.string ByteArray.empty), (.slice none 0 0), (.slice none 0 0)], [(0, 1), (1, 1), (2, 1)]) := by kernel_rfl
@[simp] theorem Tryz.isStr22 : isStrT Tryz.prog 22 = false := by kernel_rfl
@[simp] theorem Tryz.isSl22 : isSliceT Tryz.prog 22 = true := by kernel_rfl
@[simp] theorem Tryz.isMap22 : isMapT Tryz.prog 22 = false := by kernel_rfl
@[simp] theorem Tryz.fld33_2 : fldT Tryz.prog 33 2 = some 2 := by kernel_rfl
@[simp] theorem Tryz.rd31 : rdT Tryz.prog 31 = some none := by kernel_rfl
@[simp] theorem Tryz.isStr31 : isStrT Tryz.prog 31 = false := by kernel_rfl
@[simp] theorem Tryz.isSl31 : isSliceT Tryz.prog 31 = true := by kernel_rfl
@[simp] theorem Tryz.isMap31 : isMapT Tryz.prog 31 = false := by kernel_rfl
@[simp] theorem Tryz.el31 : elT Tryz.prog 31 = some (2, 40, [(.string ByteArray.empty), (.slice none 0 0)]) := by kernel_rfl
@[simp] theorem Tryz.rd58 : rdT Tryz.prog 58 = some (some 2) := by kernel_rfl
@[simp] theorem Tryz.zero58 : zeroT Tryz.prog 58 = some (.agg #[(.string ByteArray.empty), (.slice none 0 0)]) := by kernel_rfl
@[simp] theorem Tryz.sz58 : szT Tryz.prog 58 = some 2 := by kernel_rfl
@[simp] theorem Tryz.fld58_0 : fldT Tryz.prog 58 0 = some 0 := by kernel_rfl
@[simp] theorem Tryz.rd9 : rdT Tryz.prog 9 = some none := by kernel_rfl
@[simp] theorem Tryz.isPtr9 : isPtrT Tryz.prog 9 = false := by kernel_rfl
@[simp] theorem Tryz.fld26_1 : fldT Tryz.prog 26 1 = some 1 := by kernel_rfl
@[simp] theorem Tryz.rd23 : rdT Tryz.prog 23 = some none := by kernel_rfl
@[simp] theorem Tryz.zero66 : zeroT Tryz.prog 66 = some (.agg #[(.string ByteArray.empty), (.slice none 0 0), (.slice none 0 0)]) := by kernel_rfl
@[simp] theorem Tryz.sz66 : szT Tryz.prog 66 = some 3 := by kernel_rfl
@[simp] theorem Tryz.el71 : elT Tryz.prog 71 = some (1, 8, [.nilFunc]) := by kernel_rfl
@[simp] theorem Tryz.isStr71 : isStrT Tryz.prog 71 = false := by kernel_rfl
@[simp] theorem Tryz.isSl71 : isSliceT Tryz.prog 71 = true := by kernel_rfl
@[simp] theorem Tryz.isMap71 : isMapT Tryz.prog 71 = false := by kernel_rfl
@[simp] theorem Tryz.rd39 : rdT Tryz.prog 39 = some none := by kernel_rfl
@[simp] theorem Tryz.isStr27 : isStrT Tryz.prog 27 = false := by kernel_rfl
@[simp] theorem Tryz.isSl27 : isSliceT Tryz.prog 27 = true := by kernel_rfl
@[simp] theorem Tryz.isMap27 : isMapT Tryz.prog 27 = false := by kernel_rfl
@[simp] theorem Tryz.el27 : elT Tryz.prog 27 = some (2, 40, [(.string ByteArray.empty), (.slice none 0 0)]) := by kernel_rfl
@[simp] theorem Tryz.fld33_0 : fldT Tryz.prog 33 0 = some 0 := by kernel_rfl
@[simp] theorem Tryz.fld33_1 : fldT Tryz.prog 33 1 = some 1 := by kernel_rfl
@[simp] theorem Tryz.rd30 : rdT Tryz.prog 30 = some none := by kernel_rfl
@[simp] theorem Tryz.fld58_1 : fldT Tryz.prog 58 1 = some 1 := by kernel_rfl
@[simp] theorem Tryz.rd27 : rdT Tryz.prog 27 = some none := by kernel_rfl
@[simp] theorem Tryz.bld29 : bldT Tryz.prog 29 = some ([(.string ByteArray.empty), (.slice none 0 0)], [(0, 1), (1, 1)]) := by kernel_rfl
@[simp] theorem Tryz.zero29 : zeroT Tryz.prog 29 = some (.agg #[(.string ByteArray.empty), (.slice none 0 0)]) := by kernel_rfl
@[simp] theorem Tryz.sz29 : szT Tryz.prog 29 = some 2 := by kernel_rfl
@[simp] theorem Tryz.bld58 : bldT Tryz.prog 58 = some ([(.string ByteArray.empty), (.slice none 0 0)], [(0, 1), (1, 1)]) := by kernel_rfl
@[simp] theorem Tryz.el30 : elT Tryz.prog 30 = some (1, 16, [(.string ByteArray.empty)]) := by kernel_rfl
@[simp] theorem Tryz.isStr30 : isStrT Tryz.prog 30 = false := by kernel_rfl
@[simp] theorem Tryz.isSl30 : isSliceT Tryz.prog 30 = true := by kernel_rfl
@[simp] theorem Tryz.isMap30 : isMapT Tryz.prog 30 = false := by kernel_rfl
@[simp] theorem Tryz.bld26 : bldT Tryz.prog 26 = some ([(.slice none 0 0), (.slice none 0 0), (.slice none 0 0)], [(0, 1), (1, 1), (2, 1)]) := by kernel_rfl
@[simp] theorem Tryz.zero48 : zeroT Tryz.prog 48 = some (.slice none 0 0) := by kernel_rfl
@[simp] theorem Tryz.zero4 : zeroT Tryz.prog 4 = some (.bool false) := by kernel_rfl
@[simp] theorem Tryz.zero34 : zeroT Tryz.prog 34 = some (.int .i64 0) := by kernel_rfl
@[simp] theorem Tryz.sz48 : szT Tryz.prog 48 = some 1 := by kernel_rfl
@[simp] theorem Tryz.sz4 : szT Tryz.prog 4 = some 1 := by kernel_rfl
@[simp] theorem Tryz.sz34 : szT Tryz.prog 34 = some 1 := by kernel_rfl
@[simp] theorem Tryz.bld82 : bldT Tryz.prog 82 = some ([(.slice none 0 0), (.slice none 0 0), (.slice none 0 0), (.map none)], [(0, 3), (3, 1)]) := by kernel_rfl
@[simp] theorem Tryz.zero87 : zeroT Tryz.prog 87 = some (.agg #[(.int .i64 0), (.string ByteArray.empty), (.int .i64 0), (.slice none 0 0)]) := by kernel_rfl
@[simp] theorem Tryz.sz87 : szT Tryz.prog 87 = some 4 := by kernel_rfl
@[simp] theorem Tryz.rd48 : rdT Tryz.prog 48 = some none := by kernel_rfl
@[simp] theorem Tryz.isStr48 : isStrT Tryz.prog 48 = false := by kernel_rfl
@[simp] theorem Tryz.isSl48 : isSliceT Tryz.prog 48 = true := by kernel_rfl
@[simp] theorem Tryz.isMap48 : isMapT Tryz.prog 48 = false := by kernel_rfl
@[simp] theorem Tryz.rd87 : rdT Tryz.prog 87 = some (some 4) := by kernel_rfl
@[simp] theorem Tryz.el48 : elT Tryz.prog 48 = some (4, 56, [(.int .i64 0), (.string ByteArray.empty), (.int .i64 0), (.slice none 0 0)]) := by kernel_rfl
@[simp] theorem Tryz.notInt48 : notInt Tryz.prog 48 = true := by kernel_rfl
@[simp] theorem Tryz.rd4 : rdT Tryz.prog 4 = some none := by kernel_rfl
@[simp] theorem Tryz.rd34 : rdT Tryz.prog 34 = some none := by kernel_rfl
@[simp] theorem Tryz.bld94 : bldT Tryz.prog 94 = some ([(.slice none 0 0), (.map none)], [(0, 1), (1, 1)]) := by kernel_rfl
@[simp] theorem Tryz.fld26_0 : fldT Tryz.prog 26 0 = some 0 := by kernel_rfl
@[simp] theorem Tryz.rd22 : rdT Tryz.prog 22 = some none := by kernel_rfl
@[simp] theorem Tryz.notInt22 : notInt Tryz.prog 22 = true := by kernel_rfl
@[simp] theorem Tryz.notInt27 : notInt Tryz.prog 27 = true := by kernel_rfl
@[simp] theorem Tryz.sz27 : szT Tryz.prog 27 = some 1 := by kernel_rfl
@[simp] theorem Tryz.notInt31 : notInt Tryz.prog 31 = true := by kernel_rfl
@[simp] theorem Tryz.sz31 : szT Tryz.prog 31 = some 1 := by kernel_rfl
@[simp] theorem Tryz.el23 : elT Tryz.prog 23 = some (3, 64, [(.string ByteArray.empty), (.slice none 0 0), (.slice none 0 0)]) := by kernel_rfl
@[simp] theorem Tryz.fld66_1 : fldT Tryz.prog 66 1 = some 1 := by kernel_rfl
@[simp] theorem Tryz.mp99 : mapT Tryz.prog 99 = some (.string, (.bool false)) := by kernel_rfl
@[simp] theorem Tryz.notInt30 : notInt Tryz.prog 30 = true := by kernel_rfl
@[simp] theorem Tryz.isStr99 : isStrT Tryz.prog 99 = false := by kernel_rfl
@[simp] theorem Tryz.isSl99 : isSliceT Tryz.prog 99 = false := by kernel_rfl
@[simp] theorem Tryz.isMap99 : isMapT Tryz.prog 99 = true := by kernel_rfl
@[simp] theorem Tryz.isStr23 : isStrT Tryz.prog 23 = false := by kernel_rfl
@[simp] theorem Tryz.isSl23 : isSliceT Tryz.prog 23 = true := by kernel_rfl
@[simp] theorem Tryz.isMap23 : isMapT Tryz.prog 23 = false := by kernel_rfl
@[simp] theorem Tryz.fld66_0 : fldT Tryz.prog 66 0 = some 0 := by kernel_rfl
@[simp] theorem Tryz.rd66 : rdT Tryz.prog 66 = some (some 3) := by kernel_rfl
@[simp] theorem Tryz.bld66 : bldT Tryz.prog 66 = some ([(.string ByteArray.empty), (.slice none 0 0), (.slice none 0 0)], [(0, 1), (1, 1), (2, 1)]) := by kernel_rfl
@[simp] theorem Tryz.sz9 : szT Tryz.prog 9 = some 1 := by kernel_rfl
@[simp] theorem Tryz.fld26_2 : fldT Tryz.prog 26 2 = some 2 := by kernel_rfl
@[simp] theorem Tryz.rd24 : rdT Tryz.prog 24 = some none := by kernel_rfl
@[simp] theorem Tryz.isStr24 : isStrT Tryz.prog 24 = false := by kernel_rfl
@[simp] theorem Tryz.isSl24 : isSliceT Tryz.prog 24 = true := by kernel_rfl
@[simp] theorem Tryz.isMap24 : isMapT Tryz.prog 24 = false := by kernel_rfl
@[simp] theorem Tryz.fld66_2 : fldT Tryz.prog 66 2 = some 2 := by kernel_rfl
@[simp] theorem Tryz.rd64 : rdT Tryz.prog 64 = some none := by kernel_rfl
@[simp] theorem Tryz.isStr64 : isStrT Tryz.prog 64 = false := by kernel_rfl
@[simp] theorem Tryz.isSl64 : isSliceT Tryz.prog 64 = true := by kernel_rfl
@[simp] theorem Tryz.isMap64 : isMapT Tryz.prog 64 = false := by kernel_rfl
@[simp] theorem Tryz.el24 : elT Tryz.prog 24 = some (4, 80, [(.string ByteArray.empty), (.string ByteArray.empty), (.slice none 0 0), (.slice none 0 0)]) := by kernel_rfl
@[simp] theorem Tryz.rd105 : rdT Tryz.prog 105 = some (some 4) := by kernel_rfl
@[simp] theorem Tryz.zero105 : zeroT Tryz.prog 105 = some (.agg #[(.string ByteArray.empty), (.string ByteArray.empty), (.slice none 0 0), (.slice none 0 0)]) := by kernel_rfl
@[simp] theorem Tryz.sz105 : szT Tryz.prog 105 = some 4 := by kernel_rfl
@[simp] theorem Tryz.fld105_2 : fldT Tryz.prog 105 2 = some 2 := by kernel_rfl
@[simp] theorem Tryz.rd102 : rdT Tryz.prog 102 = some none := by kernel_rfl
@[simp] theorem Tryz.isStr102 : isStrT Tryz.prog 102 = false := by kernel_rfl
@[simp] theorem Tryz.isSl102 : isSliceT Tryz.prog 102 = true := by kernel_rfl
@[simp] theorem Tryz.isMap102 : isMapT Tryz.prog 102 = false := by kernel_rfl
@[simp] theorem Tryz.el64 : elT Tryz.prog 64 = some (4, 80, [(.string ByteArray.empty), (.slice none 0 0), (.string ByteArray.empty), (.slice none 0 0)]) := by kernel_rfl
@[simp] theorem Tryz.rd108 : rdT Tryz.prog 108 = some (some 4) := by kernel_rfl
@[simp] theorem Tryz.zero108 : zeroT Tryz.prog 108 = some (.agg #[(.string ByteArray.empty), (.slice none 0 0), (.string ByteArray.empty), (.slice none 0 0)]) := by kernel_rfl
@[simp] theorem Tryz.sz108 : szT Tryz.prog 108 = some 4 := by kernel_rfl
@[simp] theorem Tryz.fld108_0 : fldT Tryz.prog 108 0 = some 0 := by kernel_rfl
@[simp] theorem Tryz.fld108_1 : fldT Tryz.prog 108 1 = some 1 := by kernel_rfl
@[simp] theorem Tryz.fld105_0 : fldT Tryz.prog 105 0 = some 0 := by kernel_rfl
@[simp] theorem Tryz.fld105_1 : fldT Tryz.prog 105 1 = some 1 := by kernel_rfl
@[simp] theorem Tryz.el102 : elT Tryz.prog 102 = some (3, 56, [(.string ByteArray.empty), (.string ByteArray.empty), (.slice none 0 0)]) := by kernel_rfl
@[simp] theorem Tryz.rd112 : rdT Tryz.prog 112 = some (some 3) := by kernel_rfl
@[simp] theorem Tryz.zero112 : zeroT Tryz.prog 112 = some (.agg #[(.string ByteArray.empty), (.string ByteArray.empty), (.slice none 0 0)]) := by kernel_rfl
@[simp] theorem Tryz.sz112 : szT Tryz.prog 112 = some 3 := by kernel_rfl
@[simp] theorem Tryz.fld112_0 : fldT Tryz.prog 112 0 = some 0 := by kernel_rfl
@[simp] theorem Tryz.fld112_1 : fldT Tryz.prog 112 1 = some 1 := by kernel_rfl
@[simp] theorem Tryz.fld29_1 : fldT Tryz.prog 29 1 = some 1 := by kernel_rfl
@[simp] theorem Tryz.fld29_0 : fldT Tryz.prog 29 0 = some 0 := by kernel_rfl
@[simp] theorem Tryz.fld108_2 : fldT Tryz.prog 108 2 = some 2 := by kernel_rfl
@[simp] theorem Tryz.fld82_1 : fldT Tryz.prog 82 1 = some 3 := by kernel_rfl
@[simp] theorem Tryz.rd80 : rdT Tryz.prog 80 = some none := by kernel_rfl
@[simp] theorem Tryz.mp80 : mapT Tryz.prog 80 = some (.string, (.int .i64 0)) := by kernel_rfl
@[simp] theorem Tryz.fld82_0 : fldT Tryz.prog 82 0 = some 0 := by kernel_rfl
@[simp] theorem Tryz.fld94_1 : fldT Tryz.prog 94 1 = some 1 := by kernel_rfl
@[simp] theorem Tryz.rd92 : rdT Tryz.prog 92 = some none := by kernel_rfl
@[simp] theorem Tryz.mp92 : mapT Tryz.prog 92 = some (.string, (.slice none 0 0)) := by kernel_rfl
@[simp] theorem Tryz.isPtr132 : isPtrT Tryz.prog 132 = false := by kernel_rfl
@[simp] theorem Tryz.el132 : elT Tryz.prog 132 = some (1, 8, [(.int .i64 0)]) := by kernel_rfl
@[simp] theorem Tryz.isStr132 : isStrT Tryz.prog 132 = false := by kernel_rfl
@[simp] theorem Tryz.isSl132 : isSliceT Tryz.prog 132 = true := by kernel_rfl
@[simp] theorem Tryz.isMap132 : isMapT Tryz.prog 132 = false := by kernel_rfl
@[simp] theorem Tryz.sz3 : szT Tryz.prog 3 = some 1 := by kernel_rfl
@[simp] theorem Tryz.fld94_0 : fldT Tryz.prog 94 0 = some 0 := by kernel_rfl
@[simp] theorem Tryz.fld87_0 : fldT Tryz.prog 87 0 = some 0 := by kernel_rfl
@[simp] theorem Tryz.fld87_1 : fldT Tryz.prog 87 1 = some 1 := by kernel_rfl
@[simp] theorem Tryz.fld87_2 : fldT Tryz.prog 87 2 = some 2 := by kernel_rfl
@[simp] theorem Tryz.fld87_3 : fldT Tryz.prog 87 3 = some 3 := by kernel_rfl
@[simp] theorem Tryz.zero3 : zeroT Tryz.prog 3 = some (.int .i64 0) := by kernel_rfl
@[simp] theorem Tryz.zero154 : zeroT Tryz.prog 154 = some .nilFunc := by kernel_rfl
@[simp] theorem Tryz.sz154 : szT Tryz.prog 154 = some 1 := by kernel_rfl
@[simp] theorem Tryz.rd154 : rdT Tryz.prog 154 = some none := by kernel_rfl
@[simp] theorem Tryz.rd79 : rdT Tryz.prog 79 = some none := by kernel_rfl
@[simp] theorem Tryz.rd131 : rdT Tryz.prog 131 = some none := by kernel_rfl
@[simp] theorem Tryz.bld87 : bldT Tryz.prog 87 = some ([(.int .i64 0), (.string ByteArray.empty), (.int .i64 0), (.slice none 0 0)], [(0, 1), (1, 1), (2, 1), (3, 1)]) := by kernel_rfl
@[simp] theorem Tryz.isStr157 : isStrT Tryz.prog 157 = false := by kernel_rfl
@[simp] theorem Tryz.isSl157 : isSliceT Tryz.prog 157 = true := by kernel_rfl
@[simp] theorem Tryz.isMap157 : isMapT Tryz.prog 157 = false := by kernel_rfl
@[simp] theorem Tryz.el157 : elT Tryz.prog 157 = some (1, 24, [(.slice none 0 0)]) := by kernel_rfl
@[simp] theorem Tryz.und3 : Program.underlying Tryz.prog 3 = some (.int .i64) := by kernel_rfl
@[simp] theorem Tryz.und21 : Program.underlying Tryz.prog 21 = some (.int .i32) := by kernel_rfl
@[simp] theorem Tryz.und9 : Program.underlying Tryz.prog 9 = some .string := by kernel_rfl
@[simp] theorem Tryz.isStr9 : isStrT Tryz.prog 9 = true := by kernel_rfl
@[simp] theorem Tryz.isSl9 : isSliceT Tryz.prog 9 = false := by kernel_rfl
@[simp] theorem Tryz.isMap9 : isMapT Tryz.prog 9 = false := by kernel_rfl
@[simp] theorem Tryz.isPtr5 : isPtrT Tryz.prog 5 = false := by kernel_rfl
@[simp] theorem Tryz.rd155 : rdT Tryz.prog 155 = some none := by kernel_rfl
@[simp] theorem Tryz.notInt157 : notInt Tryz.prog 157 = true := by kernel_rfl
@[simp] theorem Tryz.bld178 : bldT Tryz.prog 178 = some ([(.string ByteArray.empty), (.string ByteArray.empty), (.slice none 0 0)], [(0, 1), (1, 2)]) := by kernel_rfl
@[simp] theorem Tryz.el159 : elT Tryz.prog 159 = some (3, 56, [(.string ByteArray.empty), (.string ByteArray.empty), (.slice none 0 0)]) := by kernel_rfl
@[simp] theorem Tryz.notInt159 : notInt Tryz.prog 159 = true := by kernel_rfl
@[simp] theorem Tryz.isStr159 : isStrT Tryz.prog 159 = false := by kernel_rfl
@[simp] theorem Tryz.isSl159 : isSliceT Tryz.prog 159 = true := by kernel_rfl
@[simp] theorem Tryz.isMap159 : isMapT Tryz.prog 159 = false := by kernel_rfl
@[simp] theorem Tryz.fld178_0 : fldT Tryz.prog 178 0 = some 0 := by kernel_rfl
@[simp] theorem Tryz.fld178_1 : fldT Tryz.prog 178 1 = some 1 := by kernel_rfl
theorem Tryz.mixed : Tryz.prog.follows .mixedOrders = true := by kernel_rfl
end Go.Proofs
