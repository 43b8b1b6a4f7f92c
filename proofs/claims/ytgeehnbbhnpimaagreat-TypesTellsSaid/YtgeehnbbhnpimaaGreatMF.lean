/- Closed facts on the types of this seat's program. -/
import Derived.Test.YtgeehnbbhnpimaaGreatProg
import Derived.Test.YtgeehnbbhnpimaaGreatMD
import Derived.KernelRfl
set_option linter.unusedVariables false
set_option linter.unusedSimpArgs false
namespace Go.Proofs
open Go Go.Abs
@[simp] theorem Tryz.rd24:rdT Tryz.prog 24=some (some 2):=by kernel_rfl
@[simp] theorem Tryz.isPtr35:isPtrT Tryz.prog 35=false:=by kernel_rfl
@[simp] theorem Tryz.zero24:zeroT Tryz.prog 24=some (.agg #[(.string ByteArray.empty),(.slice none 0 0)]):=by kernel_rfl
@[simp] theorem Tryz.sz24:szT Tryz.prog 24=some 2:=by kernel_rfl
@[simp] theorem Tryz.isPtr9:isPtrT Tryz.prog 9=false:=by kernel_rfl
@[simp] theorem Tryz.isPtr3:isPtrT Tryz.prog 3=false:=by kernel_rfl
@[simp] theorem Tryz.isStr27:isStrT Tryz.prog 27=false:=by kernel_rfl
@[simp] theorem Tryz.isSl27:isSliceT Tryz.prog 27=true:=by kernel_rfl
@[simp] theorem Tryz.isMap27:isMapT Tryz.prog 27=false:=by kernel_rfl
@[simp] theorem Tryz.el27:elT Tryz.prog 27=some (1,8,[(.int .i64 0)]):=by kernel_rfl
@[simp] theorem Tryz.rd3:rdT Tryz.prog 3=some none:=by kernel_rfl
@[simp] theorem Tryz.isStr9:isStrT Tryz.prog 9=true:=by kernel_rfl
@[simp] theorem Tryz.isSl9:isSliceT Tryz.prog 9=false:=by kernel_rfl
@[simp] theorem Tryz.isMap9:isMapT Tryz.prog 9=false:=by kernel_rfl
@[simp] theorem Tryz.isStr26:isStrT Tryz.prog 26=false:=by kernel_rfl
@[simp] theorem Tryz.isSl26:isSliceT Tryz.prog 26=true:=by kernel_rfl
@[simp] theorem Tryz.isMap26:isMapT Tryz.prog 26=false:=by kernel_rfl
@[simp] theorem Tryz.el26:elT Tryz.prog 26=some (1,16,[(.string ByteArray.empty)]):=by kernel_rfl
@[simp] theorem Tryz.rd9:rdT Tryz.prog 9=some none:=by kernel_rfl
@[simp] theorem Tryz.bld24:bldT Tryz.prog 24=some ([(.string ByteArray.empty),(.slice none 0 0)],[(0,1),(1,1)]):=by kernel_rfl
@[simp] theorem Tryz.bld48:bldT Tryz.prog 48=some ([(.string ByteArray.empty),(.string ByteArray.empty),(.slice none 0 0)],[(0,1),(1,2)]):=by kernel_rfl
@[simp] theorem Tryz.el25:elT Tryz.prog 25=some (3,56,[(.string ByteArray.empty),(.string ByteArray.empty),(.slice none 0 0)]):=by kernel_rfl
@[simp] theorem Tryz.notInt25:notInt Tryz.prog 25=true:=by kernel_rfl
@[simp] theorem Tryz.isStr25:isStrT Tryz.prog 25=false:=by kernel_rfl
@[simp] theorem Tryz.isSl25:isSliceT Tryz.prog 25=true:=by kernel_rfl
@[simp] theorem Tryz.isMap25:isMapT Tryz.prog 25=false:=by kernel_rfl
@[simp] theorem Tryz.fld48_1:fldT Tryz.prog 48 1=some 1:=by kernel_rfl
@[simp] theorem Tryz.fld24_0:fldT Tryz.prog 24 0=some 0:=by kernel_rfl
@[simp] theorem Tryz.zero4:zeroT Tryz.prog 4=some (.bool false):=by kernel_rfl
@[simp] theorem Tryz.sz4:szT Tryz.prog 4=some 1:=by kernel_rfl
@[simp] theorem Tryz.rd4:rdT Tryz.prog 4=some none:=by kernel_rfl
@[simp] theorem Tryz.el22:elT Tryz.prog 22=some (2,40,[(.string ByteArray.empty),(.slice none 0 0)]):=by kernel_rfl
@[simp] theorem Tryz.fld24_1:fldT Tryz.prog 24 1=some 1:=by kernel_rfl
@[simp] theorem Tryz.rd22:rdT Tryz.prog 22=some none:=by kernel_rfl
@[simp] theorem Tryz.isStr22:isStrT Tryz.prog 22=false:=by kernel_rfl
@[simp] theorem Tryz.isSl22:isSliceT Tryz.prog 22=true:=by kernel_rfl
@[simp] theorem Tryz.isMap22:isMapT Tryz.prog 22=false:=by kernel_rfl
@[simp] theorem Tryz.bld73:bldT Tryz.prog 73=some ([(.slice none 0 0),(.int .i64 0),(.int .i64 0),(.int .i64 0)],[(0,1),(1,1),(2,1),(3,1)]):=by kernel_rfl
@[simp] theorem Tryz.fld73_3:fldT Tryz.prog 73 3=some 3:=by kernel_rfl
@[simp] theorem Tryz.fld73_1:fldT Tryz.prog 73 1=some 1:=by kernel_rfl
@[simp] theorem Tryz.fld73_0:fldT Tryz.prog 73 0=some 0:=by kernel_rfl
@[simp] theorem Tryz.rd70:rdT Tryz.prog 70=some none:=by kernel_rfl
@[simp] theorem Tryz.isStr70:isStrT Tryz.prog 70=false:=by kernel_rfl
@[simp] theorem Tryz.isSl70:isSliceT Tryz.prog 70=true:=by kernel_rfl
@[simp] theorem Tryz.isMap70:isMapT Tryz.prog 70=false:=by kernel_rfl
@[simp] theorem Tryz.bld76:bldT Tryz.prog 76=some ([(.string ByteArray.empty),(.int .i64 0),(.int .i64 0),(.bool false)],[(0,1),(1,1),(2,1),(3,1)]):=by kernel_rfl
@[simp] theorem Tryz.zero76:zeroT Tryz.prog 76=some (.agg #[(.string ByteArray.empty),(.int .i64 0),(.int .i64 0),(.bool false)]):=by kernel_rfl
@[simp] theorem Tryz.sz76:szT Tryz.prog 76=some 4:=by kernel_rfl
@[simp] theorem Tryz.fld76_3:fldT Tryz.prog 76 3=some 3:=by kernel_rfl
@[simp] theorem Tryz.fld76_1:fldT Tryz.prog 76 1=some 1:=by kernel_rfl
@[simp] theorem Tryz.fld48_0:fldT Tryz.prog 48 0=some 0:=by kernel_rfl
@[simp] theorem Tryz.notInt22:notInt Tryz.prog 22=true:=by kernel_rfl
@[simp] theorem Tryz.sz22:szT Tryz.prog 22=some 1:=by kernel_rfl
@[simp] theorem Tryz.rd48:rdT Tryz.prog 48=some (some 3):=by kernel_rfl
@[simp] theorem Tryz.zero48:zeroT Tryz.prog 48=some (.agg #[(.string ByteArray.empty),(.string ByteArray.empty),(.slice none 0 0)]):=by kernel_rfl
@[simp] theorem Tryz.sz48:szT Tryz.prog 48=some 3:=by kernel_rfl
@[simp] theorem Tryz.mp63:mapT Tryz.prog 63=some (.string,(.agg #[(.string ByteArray.empty),(.slice none 0 0)])):=by kernel_rfl
@[simp] theorem Tryz.zero3:zeroT Tryz.prog 3=some (.int .i64 0):=by kernel_rfl
@[simp] theorem Tryz.sz3:szT Tryz.prog 3=some 1:=by kernel_rfl
@[simp] theorem Tryz.fld93_1:fldT Tryz.prog 93 1=some 1:=by kernel_rfl
@[simp] theorem Tryz.rd90:rdT Tryz.prog 90=some none:=by kernel_rfl
@[simp] theorem Tryz.isStr90:isStrT Tryz.prog 90=false:=by kernel_rfl
@[simp] theorem Tryz.isSl90:isSliceT Tryz.prog 90=false:=by kernel_rfl
@[simp] theorem Tryz.isMap90:isMapT Tryz.prog 90=true:=by kernel_rfl
@[simp] theorem Tryz.fld93_2:fldT Tryz.prog 93 2=some 2:=by kernel_rfl
@[simp] theorem Tryz.rd63:rdT Tryz.prog 63=some none:=by kernel_rfl
@[simp] theorem Tryz.fldV24_0:fldV Tryz.prog 24 0=some (0,none):=by kernel_rfl
@[simp] theorem Tryz.zero90:zeroT Tryz.prog 90=some (.map none):=by kernel_rfl
@[simp] theorem Tryz.sz90:szT Tryz.prog 90=some 1:=by kernel_rfl
@[simp] theorem Tryz.zero67:zeroT Tryz.prog 67=some .nilFunc:=by kernel_rfl
@[simp] theorem Tryz.sz67:szT Tryz.prog 67=some 1:=by kernel_rfl
@[simp] theorem Tryz.rd67:rdT Tryz.prog 67=some none:=by kernel_rfl
@[simp] theorem Tryz.bld100:bldT Tryz.prog 100=some ([(.slice none 0 0),(.slice none 0 0)],[(0,1),(1,1)]):=by kernel_rfl
@[simp] theorem Tryz.zero100:zeroT Tryz.prog 100=some (.agg #[(.slice none 0 0),(.slice none 0 0)]):=by kernel_rfl
@[simp] theorem Tryz.sz100:szT Tryz.prog 100=some 2:=by kernel_rfl
@[simp] theorem Tryz.zero101:zeroT Tryz.prog 101=some .nilFunc:=by kernel_rfl
@[simp] theorem Tryz.sz101:szT Tryz.prog 101=some 1:=by kernel_rfl
@[simp] theorem Tryz.rd101:rdT Tryz.prog 101=some none:=by kernel_rfl
@[simp] theorem Tryz.zero26:zeroT Tryz.prog 26=some (.slice none 0 0):=by kernel_rfl
@[simp] theorem Tryz.zero91:zeroT Tryz.prog 91=some (.map none):=by kernel_rfl
@[simp] theorem Tryz.sz91:szT Tryz.prog 91=some 1:=by kernel_rfl
@[simp] theorem Tryz.rd26:rdT Tryz.prog 26=some none:=by kernel_rfl
@[simp] theorem Tryz.isPtr5:isPtrT Tryz.prog 5=false:=by kernel_rfl
@[simp] theorem Tryz.bld107:bldT Tryz.prog 107=some ([(.string ByteArray.empty),(.int .i64 0)],[(0,1),(1,1)]):=by kernel_rfl
@[simp] theorem Tryz.el70:elT Tryz.prog 70=some (2,24,[(.string ByteArray.empty),(.int .i64 0)]):=by kernel_rfl
@[simp] theorem Tryz.notInt70:notInt Tryz.prog 70=true:=by kernel_rfl
@[simp] theorem Tryz.fld73_2:fldT Tryz.prog 73 2=some 2:=by kernel_rfl
@[simp] theorem Tryz.fld107_1:fldT Tryz.prog 107 1=some 1:=by kernel_rfl
@[simp] theorem Tryz.fld76_0:fldT Tryz.prog 76 0=some 0:=by kernel_rfl
@[simp] theorem Tryz.fld76_2:fldT Tryz.prog 76 2=some 2:=by kernel_rfl
@[simp] theorem Tryz.isStr63:isStrT Tryz.prog 63=false:=by kernel_rfl
@[simp] theorem Tryz.isSl63:isSliceT Tryz.prog 63=false:=by kernel_rfl
@[simp] theorem Tryz.isMap63:isMapT Tryz.prog 63=true:=by kernel_rfl
@[simp] theorem Tryz.bld93:bldT Tryz.prog 93=some ([(.map none),(.map none),(.map none),(.map none)],[(0,1),(1,1),(2,1),(3,1)]):=by kernel_rfl
@[simp] theorem Tryz.fld93_0:fldT Tryz.prog 93 0=some 0:=by kernel_rfl
@[simp] theorem Tryz.rd89:rdT Tryz.prog 89=some none:=by kernel_rfl
@[simp] theorem Tryz.mp89:mapT Tryz.prog 89=some (.string,(.int .i64 0)):=by kernel_rfl
@[simp] theorem Tryz.mp90:mapT Tryz.prog 90=some (.string,(.string ByteArray.empty)):=by kernel_rfl
@[simp] theorem Tryz.zero89:zeroT Tryz.prog 89=some (.map none):=by kernel_rfl
@[simp] theorem Tryz.sz89:szT Tryz.prog 89=some 1:=by kernel_rfl
@[simp] theorem Tryz.zero29:zeroT Tryz.prog 29=some .nilFunc:=by kernel_rfl
@[simp] theorem Tryz.sz29:szT Tryz.prog 29=some 1:=by kernel_rfl
@[simp] theorem Tryz.rd85:rdT Tryz.prog 85=some none:=by kernel_rfl
@[simp] theorem Tryz.rd29:rdT Tryz.prog 29=some none:=by kernel_rfl
@[simp] theorem Tryz.bld113:bldT Tryz.prog 113=some ([(.slice none 0 0),(.slice none 0 0),(.slice none 0 0)],[(0,1),(1,1),(2,1)]):=by kernel_rfl
@[simp] theorem Tryz.zero113:zeroT Tryz.prog 113=some (.agg #[(.slice none 0 0),(.slice none 0 0),(.slice none 0 0)]):=by kernel_rfl
@[simp] theorem Tryz.sz113:szT Tryz.prog 113=some 3:=by kernel_rfl
@[simp] theorem Tryz.notInt27:notInt Tryz.prog 27=true:=by kernel_rfl
@[simp] theorem Tryz.fld113_0:fldT Tryz.prog 113 0=some 0:=by kernel_rfl
@[simp] theorem Tryz.sz9:szT Tryz.prog 9=some 1:=by kernel_rfl
@[simp] theorem Tryz.und3:Program.underlying Tryz.prog 3=some (.int .i64):=by kernel_rfl
@[simp] theorem Tryz.und21:Program.underlying Tryz.prog 21=some (.int .i32):=by kernel_rfl
@[simp] theorem Tryz.und9:Program.underlying Tryz.prog 9=some .string:=by kernel_rfl
@[simp] theorem Tryz.fld100_0:fldT Tryz.prog 100 0=some 0:=by kernel_rfl
@[simp] theorem Tryz.fld100_1:fldT Tryz.prog 100 1=some 1:=by kernel_rfl
@[simp] theorem Tryz.rd91:rdT Tryz.prog 91=some none:=by kernel_rfl
@[simp] theorem Tryz.mp91:mapT Tryz.prog 91=some (.string,(.bool false)):=by kernel_rfl
@[simp] theorem Tryz.notInt26:notInt Tryz.prog 26=true:=by kernel_rfl
@[simp] theorem Tryz.sz26:szT Tryz.prog 26=some 1:=by kernel_rfl
@[simp] theorem Tryz.und5:Program.underlying Tryz.prog 5=some (.int .u8):=by kernel_rfl
@[simp] theorem Tryz.el124:elT Tryz.prog 124=some (1,1,[(.int .u8 0)]):=by kernel_rfl
@[simp] theorem Tryz.und124:Program.underlying Tryz.prog 124=some (.slice 5):=by kernel_rfl
@[simp] theorem Tryz.isBytes124:isBytesT Tryz.prog 124=true:=by kernel_rfl
@[simp] theorem Tryz.fld107_0:fldT Tryz.prog 107 0=some 0:=by kernel_rfl
@[simp] theorem Tryz.fld113_1:fldT Tryz.prog 113 1=some 1:=by kernel_rfl
@[simp] theorem Tryz.rd111:rdT Tryz.prog 111=some none:=by kernel_rfl
@[simp] theorem Tryz.el111:elT Tryz.prog 111=some (1,24,[(.slice none 0 0)]):=by kernel_rfl
@[simp] theorem Tryz.notInt111:notInt Tryz.prog 111=true:=by kernel_rfl
@[simp] theorem Tryz.sz111:szT Tryz.prog 111=some 1:=by kernel_rfl
@[simp] theorem Tryz.fld113_2:fldT Tryz.prog 113 2=some 2:=by kernel_rfl
@[simp] theorem Tryz.rd27:rdT Tryz.prog 27=some none:=by kernel_rfl
@[simp] theorem Tryz.sz27:szT Tryz.prog 27=some 1:=by kernel_rfl
@[simp] theorem Tryz.bld127:bldT Tryz.prog 127=some ([(.int .i64 0),(.int .i64 0)],[(0,1),(1,1)]):=by kernel_rfl
@[simp] theorem Tryz.el128:elT Tryz.prog 128=some (2,16,[(.int .i64 0),(.int .i64 0)]):=by kernel_rfl
@[simp] theorem Tryz.isStr128:isStrT Tryz.prog 128=false:=by kernel_rfl
@[simp] theorem Tryz.isSl128:isSliceT Tryz.prog 128=true:=by kernel_rfl
@[simp] theorem Tryz.isMap128:isMapT Tryz.prog 128=false:=by kernel_rfl
@[simp] theorem Tryz.rd127:rdT Tryz.prog 127=some (some 2):=by kernel_rfl
@[simp] theorem Tryz.zero127:zeroT Tryz.prog 127=some (.agg #[(.int .i64 0),(.int .i64 0)]):=by kernel_rfl
@[simp] theorem Tryz.sz127:szT Tryz.prog 127=some 2:=by kernel_rfl
@[simp] theorem Tryz.arr127:arrT Tryz.prog 127=some (2,1):=by kernel_rfl
@[simp] theorem Tryz.el127:elT Tryz.prog 127=none:=by kernel_rfl
@[simp] theorem Tryz.notInt128:notInt Tryz.prog 128=true:=by kernel_rfl
@[simp] theorem Tryz.el130:elT Tryz.prog 130=some (1,1,[(.bool false)]):=by kernel_rfl
@[simp] theorem Tryz.fld93_3:fldT Tryz.prog 93 3=some 3:=by kernel_rfl
theorem Tryz.mixed:Tryz.prog.follows .mixedOrders=true:=by kernel_rfl
end Go.Proofs
