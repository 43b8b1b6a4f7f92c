/- Closed facts on the types of this seat's program. -/
import Derived.Test.YtlhoigpidpokfaaGreatProg
import Derived.Test.YtlhoigpidpokfaaGreatMD
import Derived.KernelRfl
set_option linter.unusedVariables false
set_option linter.unusedSimpArgs false
namespace Go.Proofs
open Go Go.Abs
@[simp] theorem Tryz.rd26:rdT Tryz.prog 26=some (some 3):=by kernel_rfl
@[simp] theorem Tryz.isPtr28:isPtrT Tryz.prog 28=false:=by kernel_rfl
@[simp] theorem Tryz.isStr27:isStrT Tryz.prog 27=false:=by kernel_rfl
@[simp] theorem Tryz.isSl27:isSliceT Tryz.prog 27=true:=by kernel_rfl
@[simp] theorem Tryz.isMap27:isMapT Tryz.prog 27=false:=by kernel_rfl
@[simp] theorem Tryz.isPtr3:isPtrT Tryz.prog 3=false:=by kernel_rfl
@[simp] theorem Tryz.el27:elT Tryz.prog 27=some (3,56,[(.string ByteArray.empty),(.string ByteArray.empty),(.slice none 0 0)]):=by kernel_rfl
@[simp] theorem Tryz.notInt27:notInt Tryz.prog 27=true:=by kernel_rfl
@[simp] theorem Tryz.rd39:rdT Tryz.prog 39=some (some 3):=by kernel_rfl
@[simp] theorem Tryz.zero39:zeroT Tryz.prog 39=some (.agg #[(.string ByteArray.empty),(.string ByteArray.empty),(.slice none 0 0)]):=by kernel_rfl
@[simp] theorem Tryz.sz39:szT Tryz.prog 39=some 3:=by kernel_rfl
@[simp] theorem Tryz.fld39_1:fldT Tryz.prog 39 1=some 1:=by kernel_rfl
@[simp] theorem Tryz.rd37:rdT Tryz.prog 37=some (some 2):=by kernel_rfl
@[simp] theorem Tryz.el41:elT Tryz.prog 41=some (1,8,[(.int .i64 0)]):=by kernel_rfl
@[simp] theorem Tryz.isStr41:isStrT Tryz.prog 41=false:=by kernel_rfl
@[simp] theorem Tryz.isSl41:isSliceT Tryz.prog 41=true:=by kernel_rfl
@[simp] theorem Tryz.isMap41:isMapT Tryz.prog 41=false:=by kernel_rfl
@[simp] theorem Tryz.rd28:rdT Tryz.prog 28=some none:=by kernel_rfl
@[simp] theorem Tryz.fld39_0:fldT Tryz.prog 39 0=some 0:=by kernel_rfl
@[simp] theorem Tryz.rd9:rdT Tryz.prog 9=some none:=by kernel_rfl
@[simp] theorem Tryz.fld26_1:fldT Tryz.prog 26 1=some 1:=by kernel_rfl
@[simp] theorem Tryz.rd23:rdT Tryz.prog 23=some none:=by kernel_rfl
@[simp] theorem Tryz.zero51:zeroT Tryz.prog 51=some (.agg #[(.string ByteArray.empty),(.slice none 0 0),(.slice none 0 0)]):=by kernel_rfl
@[simp] theorem Tryz.sz51:szT Tryz.prog 51=some 3:=by kernel_rfl
@[simp] theorem Tryz.isPtr9:isPtrT Tryz.prog 9=false:=by kernel_rfl
@[simp] theorem Tryz.bld26:bldT Tryz.prog 26=some ([(.slice none 0 0),(.slice none 0 0),(.slice none 0 0)],[(0,1),(1,1),(2,1)]):=by kernel_rfl
@[simp] theorem Tryz.bld37:bldT Tryz.prog 37=some ([(.string ByteArray.empty),(.slice none 0 0)],[(0,1),(1,1)]):=by kernel_rfl
@[simp] theorem Tryz.el35:elT Tryz.prog 35=some (2,40,[(.string ByteArray.empty),(.slice none 0 0)]):=by kernel_rfl
@[simp] theorem Tryz.el60:elT Tryz.prog 60=some (1,8,[.nilFunc]):=by kernel_rfl
@[simp] theorem Tryz.isStr60:isStrT Tryz.prog 60=false:=by kernel_rfl
@[simp] theorem Tryz.isSl60:isSliceT Tryz.prog 60=true:=by kernel_rfl
@[simp] theorem Tryz.isMap60:isMapT Tryz.prog 60=false:=by kernel_rfl
@[simp] theorem Tryz.rd34:rdT Tryz.prog 34=some none:=by kernel_rfl
@[simp] theorem Tryz.zero4:zeroT Tryz.prog 4=some (.bool false):=by kernel_rfl
@[simp] theorem Tryz.sz4:szT Tryz.prog 4=some 1:=by kernel_rfl
@[simp] theorem Tryz.rd4:rdT Tryz.prog 4=some none:=by kernel_rfl
@[simp] theorem Tryz.isStr35:isStrT Tryz.prog 35=false:=by kernel_rfl
@[simp] theorem Tryz.isSl35:isSliceT Tryz.prog 35=true:=by kernel_rfl
@[simp] theorem Tryz.isMap35:isMapT Tryz.prog 35=false:=by kernel_rfl
@[simp] theorem Tryz.zero37:zeroT Tryz.prog 37=some (.agg #[(.string ByteArray.empty),(.slice none 0 0)]):=by kernel_rfl
@[simp] theorem Tryz.sz37:szT Tryz.prog 37=some 2:=by kernel_rfl
@[simp] theorem Tryz.fld37_0:fldT Tryz.prog 37 0=some 0:=by kernel_rfl
@[simp] theorem Tryz.zero69:zeroT Tryz.prog 69=some (.agg #[(.string ByteArray.empty),(.slice none 0 0),(.slice none 0 0)]):=by kernel_rfl
@[simp] theorem Tryz.sz69:szT Tryz.prog 69=some 3:=by kernel_rfl
@[simp] theorem Tryz.fld37_1:fldT Tryz.prog 37 1=some 1:=by kernel_rfl
@[simp] theorem Tryz.rd35:rdT Tryz.prog 35=some none:=by kernel_rfl
@[simp] theorem Tryz.fld69_1:fldT Tryz.prog 69 1=some 1:=by kernel_rfl
@[simp] theorem Tryz.rd48:rdT Tryz.prog 48=some none:=by kernel_rfl
@[simp] theorem Tryz.isStr48:isStrT Tryz.prog 48=false:=by kernel_rfl
@[simp] theorem Tryz.isSl48:isSliceT Tryz.prog 48=true:=by kernel_rfl
@[simp] theorem Tryz.isMap48:isMapT Tryz.prog 48=false:=by kernel_rfl
@[simp] theorem Tryz.bld39:bldT Tryz.prog 39=some ([(.string ByteArray.empty),(.string ByteArray.empty),(.slice none 0 0)],[(0,1),(1,2)]):=by kernel_rfl
@[simp] theorem Tryz.mp44:mapT Tryz.prog 44=some (.string,(.agg #[(.string ByteArray.empty),(.string ByteArray.empty),(.slice none 0 0)])):=by kernel_rfl
@[simp] theorem Tryz.fld26_2:fldT Tryz.prog 26 2=some 2:=by kernel_rfl
@[simp] theorem Tryz.rd24:rdT Tryz.prog 24=some none:=by kernel_rfl
@[simp] theorem Tryz.el24:elT Tryz.prog 24=some (4,80,[(.string ByteArray.empty),(.string ByteArray.empty),(.slice none 0 0),(.slice none 0 0)]):=by kernel_rfl
@[simp] theorem Tryz.fld75_2:fldT Tryz.prog 75 2=some 2:=by kernel_rfl
@[simp] theorem Tryz.rd27:rdT Tryz.prog 27=some none:=by kernel_rfl
@[simp] theorem Tryz.isStr44:isStrT Tryz.prog 44=false:=by kernel_rfl
@[simp] theorem Tryz.isSl44:isSliceT Tryz.prog 44=false:=by kernel_rfl
@[simp] theorem Tryz.isMap44:isMapT Tryz.prog 44=true:=by kernel_rfl
@[simp] theorem Tryz.fld26_0:fldT Tryz.prog 26 0=some 0:=by kernel_rfl
@[simp] theorem Tryz.rd22:rdT Tryz.prog 22=some none:=by kernel_rfl
@[simp] theorem Tryz.el22:elT Tryz.prog 22=some (3,64,[(.string ByteArray.empty),(.slice none 0 0),(.slice none 0 0)]):=by kernel_rfl
@[simp] theorem Tryz.notInt22:notInt Tryz.prog 22=true:=by kernel_rfl
@[simp] theorem Tryz.isStr23:isStrT Tryz.prog 23=false:=by kernel_rfl
@[simp] theorem Tryz.isSl23:isSliceT Tryz.prog 23=true:=by kernel_rfl
@[simp] theorem Tryz.isMap23:isMapT Tryz.prog 23=false:=by kernel_rfl
@[simp] theorem Tryz.el23:elT Tryz.prog 23=some (3,64,[(.string ByteArray.empty),(.slice none 0 0),(.slice none 0 0)]):=by kernel_rfl
@[simp] theorem Tryz.fld51_0:fldT Tryz.prog 51 0=some 0:=by kernel_rfl
@[simp] theorem Tryz.rd51:rdT Tryz.prog 51=some (some 3):=by kernel_rfl
@[simp] theorem Tryz.bld51:bldT Tryz.prog 51=some ([(.string ByteArray.empty),(.slice none 0 0),(.slice none 0 0)],[(0,1),(1,1),(2,1)]):=by kernel_rfl
@[simp] theorem Tryz.bld89:bldT Tryz.prog 89=some ([(.slice none 0 0),(.slice none 0 0),(.slice none 0 0),(.slice none 0 0),(.slice none 0 0),(.bool false)],[(0,3),(3,1),(4,1),(5,1)]):=by kernel_rfl
@[simp] theorem Tryz.fld89_3:fldT Tryz.prog 89 3=some 5:=by kernel_rfl
@[simp] theorem Tryz.fld89_2:fldT Tryz.prog 89 2=some 4:=by kernel_rfl
@[simp] theorem Tryz.bld96:bldT Tryz.prog 96=some ([(.slice none 0 0),(.slice none 0 0),(.slice none 0 0),(.map none)],[(0,3),(3,1)]):=by kernel_rfl
@[simp] theorem Tryz.isStr22:isStrT Tryz.prog 22=false:=by kernel_rfl
@[simp] theorem Tryz.isSl22:isSliceT Tryz.prog 22=true:=by kernel_rfl
@[simp] theorem Tryz.isMap22:isMapT Tryz.prog 22=false:=by kernel_rfl
@[simp] theorem Tryz.isStr24:isStrT Tryz.prog 24=false:=by kernel_rfl
@[simp] theorem Tryz.isSl24:isSliceT Tryz.prog 24=true:=by kernel_rfl
@[simp] theorem Tryz.isMap24:isMapT Tryz.prog 24=false:=by kernel_rfl
@[simp] theorem Tryz.rd69:rdT Tryz.prog 69=some (some 3):=by kernel_rfl
@[simp] theorem Tryz.fld69_2:fldT Tryz.prog 69 2=some 2:=by kernel_rfl
@[simp] theorem Tryz.rd67:rdT Tryz.prog 67=some none:=by kernel_rfl
@[simp] theorem Tryz.isStr67:isStrT Tryz.prog 67=false:=by kernel_rfl
@[simp] theorem Tryz.isSl67:isSliceT Tryz.prog 67=true:=by kernel_rfl
@[simp] theorem Tryz.isMap67:isMapT Tryz.prog 67=false:=by kernel_rfl
@[simp] theorem Tryz.fld51_2:fldT Tryz.prog 51 2=some 2:=by kernel_rfl
@[simp] theorem Tryz.rd49:rdT Tryz.prog 49=some none:=by kernel_rfl
@[simp] theorem Tryz.isStr49:isStrT Tryz.prog 49=false:=by kernel_rfl
@[simp] theorem Tryz.isSl49:isSliceT Tryz.prog 49=true:=by kernel_rfl
@[simp] theorem Tryz.isMap49:isMapT Tryz.prog 49=false:=by kernel_rfl
@[simp] theorem Tryz.rd75:rdT Tryz.prog 75=some (some 4):=by kernel_rfl
@[simp] theorem Tryz.zero75:zeroT Tryz.prog 75=some (.agg #[(.string ByteArray.empty),(.string ByteArray.empty),(.slice none 0 0),(.slice none 0 0)]):=by kernel_rfl
@[simp] theorem Tryz.sz75:szT Tryz.prog 75=some 4:=by kernel_rfl
@[simp] theorem Tryz.fld69_0:fldT Tryz.prog 69 0=some 0:=by kernel_rfl
@[simp] theorem Tryz.el48:elT Tryz.prog 48=some (1,16,[(.string ByteArray.empty)]):=by kernel_rfl
@[simp] theorem Tryz.el67:elT Tryz.prog 67=some (2,40,[(.string ByteArray.empty),(.slice none 0 0)]):=by kernel_rfl
@[simp] theorem Tryz.rd99:rdT Tryz.prog 99=some (some 2):=by kernel_rfl
@[simp] theorem Tryz.zero99:zeroT Tryz.prog 99=some (.agg #[(.string ByteArray.empty),(.slice none 0 0)]):=by kernel_rfl
@[simp] theorem Tryz.sz99:szT Tryz.prog 99=some 2:=by kernel_rfl
@[simp] theorem Tryz.fld99_0:fldT Tryz.prog 99 0=some 0:=by kernel_rfl
@[simp] theorem Tryz.fld99_1:fldT Tryz.prog 99 1=some 1:=by kernel_rfl
@[simp] theorem Tryz.fld51_1:fldT Tryz.prog 51 1=some 1:=by kernel_rfl
@[simp] theorem Tryz.el49:elT Tryz.prog 49=some (4,80,[(.string ByteArray.empty),(.slice none 0 0),(.string ByteArray.empty),(.slice none 0 0)]):=by kernel_rfl
@[simp] theorem Tryz.rd101:rdT Tryz.prog 101=some (some 4):=by kernel_rfl
@[simp] theorem Tryz.zero101:zeroT Tryz.prog 101=some (.agg #[(.string ByteArray.empty),(.slice none 0 0),(.string ByteArray.empty),(.slice none 0 0)]):=by kernel_rfl
@[simp] theorem Tryz.sz101:szT Tryz.prog 101=some 4:=by kernel_rfl
@[simp] theorem Tryz.fld101_0:fldT Tryz.prog 101 0=some 0:=by kernel_rfl
@[simp] theorem Tryz.fld101_1:fldT Tryz.prog 101 1=some 1:=by kernel_rfl
@[simp] theorem Tryz.fld75_0:fldT Tryz.prog 75 0=some 0:=by kernel_rfl
@[simp] theorem Tryz.fld75_1:fldT Tryz.prog 75 1=some 1:=by kernel_rfl
@[simp] theorem Tryz.fld101_2:fldT Tryz.prog 101 2=some 2:=by kernel_rfl
@[simp] theorem Tryz.notInt48:notInt Tryz.prog 48=true:=by kernel_rfl
@[simp] theorem Tryz.zero3:zeroT Tryz.prog 3=some (.int .i64 0):=by kernel_rfl
@[simp] theorem Tryz.sz3:szT Tryz.prog 3=some 1:=by kernel_rfl
@[simp] theorem Tryz.zero105:zeroT Tryz.prog 105=some .nilFunc:=by kernel_rfl
@[simp] theorem Tryz.sz105:szT Tryz.prog 105=some 1:=by kernel_rfl
@[simp] theorem Tryz.rd105:rdT Tryz.prog 105=some none:=by kernel_rfl
@[simp] theorem Tryz.notInt35:notInt Tryz.prog 35=true:=by kernel_rfl
@[simp] theorem Tryz.bld69:bldT Tryz.prog 69=some ([(.string ByteArray.empty),(.slice none 0 0),(.slice none 0 0)],[(0,1),(1,1),(2,1)]):=by kernel_rfl
@[simp] theorem Tryz.mp108:mapT Tryz.prog 108=some (.string,(.bool false)):=by kernel_rfl
@[simp] theorem Tryz.isStr108:isStrT Tryz.prog 108=false:=by kernel_rfl
@[simp] theorem Tryz.isSl108:isSliceT Tryz.prog 108=false:=by kernel_rfl
@[simp] theorem Tryz.isMap108:isMapT Tryz.prog 108=true:=by kernel_rfl
@[simp] theorem Tryz.und3:Program.underlying Tryz.prog 3=some (.int .i64):=by kernel_rfl
@[simp] theorem Tryz.und112:Program.underlying Tryz.prog 112=some (.int .u64):=by kernel_rfl
@[simp] theorem Tryz.bld99:bldT Tryz.prog 99=some ([(.string ByteArray.empty),(.slice none 0 0)],[(0,1),(1,1)]):=by kernel_rfl
@[simp] theorem Tryz.isStr9:isStrT Tryz.prog 9=true:=by kernel_rfl
@[simp] theorem Tryz.isSl9:isSliceT Tryz.prog 9=false:=by kernel_rfl
@[simp] theorem Tryz.isMap9:isMapT Tryz.prog 9=false:=by kernel_rfl
@[simp] theorem Tryz.fld89_1:fldT Tryz.prog 89 1=some 3:=by kernel_rfl
@[simp] theorem Tryz.sz48:szT Tryz.prog 48=some 1:=by kernel_rfl
@[simp] theorem Tryz.sz27:szT Tryz.prog 27=some 1:=by kernel_rfl
@[simp] theorem Tryz.fld89_0:fldT Tryz.prog 89 0=some 0:=by kernel_rfl
@[simp] theorem Tryz.fld96_1:fldT Tryz.prog 96 1=some 3:=by kernel_rfl
@[simp] theorem Tryz.rd94:rdT Tryz.prog 94=some none:=by kernel_rfl
@[simp] theorem Tryz.mp94:mapT Tryz.prog 94=some (.string,(.int .i64 0)):=by kernel_rfl
@[simp] theorem Tryz.fld96_0:fldT Tryz.prog 96 0=some 0:=by kernel_rfl
@[simp] theorem Tryz.rd3:rdT Tryz.prog 3=some none:=by kernel_rfl
@[simp] theorem Tryz.isPtr5:isPtrT Tryz.prog 5=false:=by kernel_rfl
@[simp] theorem Tryz.isPtr136:isPtrT Tryz.prog 136=false:=by kernel_rfl
@[simp] theorem Tryz.und21:Program.underlying Tryz.prog 21=some (.int .i32):=by kernel_rfl
@[simp] theorem Tryz.und9:Program.underlying Tryz.prog 9=some .string:=by kernel_rfl
@[simp] theorem Tryz.und155:Program.underlying Tryz.prog 155=some (.int .u64):=by kernel_rfl
@[simp] theorem Tryz.zero155:zeroT Tryz.prog 155=some (.int .u64 0):=by kernel_rfl
@[simp] theorem Tryz.sz155:szT Tryz.prog 155=some 1:=by kernel_rfl
@[simp] theorem Tryz.isPtr112:isPtrT Tryz.prog 112=false:=by kernel_rfl
@[simp] theorem Tryz.sz35:szT Tryz.prog 35=some 1:=by kernel_rfl
theorem Tryz.mixed:Tryz.prog.follows .mixedOrders=true:=by kernel_rfl
end Go.Proofs
