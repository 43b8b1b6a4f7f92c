/- Closed facts on the types of this seat's program. -/
import Derived.Test.YtdppfcbeiplckaaGreatProg
import Derived.Test.YtdppfcbeiplckaaGreatMD
import Derived.KernelRfl
set_option linter.unusedVariables false
set_option linter.unusedSimpArgs false
namespace Go.Proofs
open Go Go.Abs
@[simp] theorem Tryz.rd25:rdT Tryz.prog 25=some (some 4):=by kernel_rfl
@[simp] theorem Tryz.isPtr27:isPtrT Tryz.prog 27=false:=by kernel_rfl
@[simp] theorem Tryz.isPtr4:isPtrT Tryz.prog 4=false:=by kernel_rfl
@[simp] theorem Tryz.rd39:rdT Tryz.prog 39=some (some 3):=by kernel_rfl
@[simp] theorem Tryz.zero25:zeroT Tryz.prog 25=some (.agg #[(.int .i64 0),(.slice none 0 0),(.slice none 0 0),(.slice none 0 0)]):=by kernel_rfl
@[simp] theorem Tryz.sz25:szT Tryz.prog 25=some 4:=by kernel_rfl
@[simp] theorem Tryz.isStr26:isStrT Tryz.prog 26=false:=by kernel_rfl
@[simp] theorem Tryz.isSl26:isSliceT Tryz.prog 26=true:=by kernel_rfl
@[simp] theorem Tryz.isMap26:isMapT Tryz.prog 26=false:=by kernel_rfl
@[simp] theorem Tryz.isPtr3:isPtrT Tryz.prog 3=false:=by kernel_rfl
@[simp] theorem Tryz.el26:elT Tryz.prog 26=some (4,56,[(.int .i64 0),(.string ByteArray.empty),(.int .i64 0),(.slice none 0 0)]):=by kernel_rfl
@[simp] theorem Tryz.rd51:rdT Tryz.prog 51=some (some 4):=by kernel_rfl
@[simp] theorem Tryz.isStr22:isStrT Tryz.prog 22=false:=by kernel_rfl
@[simp] theorem Tryz.isSl22:isSliceT Tryz.prog 22=true:=by kernel_rfl
@[simp] theorem Tryz.isMap22:isMapT Tryz.prog 22=false:=by kernel_rfl
@[simp] theorem Tryz.zero22:zeroT Tryz.prog 22=some (.slice none 0 0):=by kernel_rfl
@[simp] theorem Tryz.rd22:rdT Tryz.prog 22=some none:=by kernel_rfl
@[simp] theorem Tryz.isStr60:isStrT Tryz.prog 60=false:=by kernel_rfl
@[simp] theorem Tryz.isSl60:isSliceT Tryz.prog 60=false:=by kernel_rfl
@[simp] theorem Tryz.isMap60:isMapT Tryz.prog 60=true:=by kernel_rfl
@[simp] theorem Tryz.el22:elT Tryz.prog 22=some (1,8,[(.int .i64 0)]):=by kernel_rfl
@[simp] theorem Tryz.notInt22:notInt Tryz.prog 22=true:=by kernel_rfl
@[simp] theorem Tryz.rd3:rdT Tryz.prog 3=some none:=by kernel_rfl
@[simp] theorem Tryz.sz3:szT Tryz.prog 3=some 1:=by kernel_rfl
@[simp] theorem Tryz.el62:elT Tryz.prog 62=some (4,56,[(.int .i64 0),(.string ByteArray.empty),(.int .i64 0),(.slice none 0 0)]):=by kernel_rfl
@[simp] theorem Tryz.el40:elT Tryz.prog 40=some (1,24,[(.slice none 0 0)]):=by kernel_rfl
@[simp] theorem Tryz.bld39:bldT Tryz.prog 39=some ([(.slice none 0 0),(.slice none 0 0),(.slice none 0 0)],[(0,1),(1,1),(2,1)]):=by kernel_rfl
@[simp] theorem Tryz.isStr62:isStrT Tryz.prog 62=false:=by kernel_rfl
@[simp] theorem Tryz.isSl62:isSliceT Tryz.prog 62=true:=by kernel_rfl
@[simp] theorem Tryz.isMap62:isMapT Tryz.prog 62=false:=by kernel_rfl
@[simp] theorem Tryz.fld64_1:fldT Tryz.prog 64 1=some 1:=by kernel_rfl
@[simp] theorem Tryz.rd9:rdT Tryz.prog 9=some none:=by kernel_rfl
@[simp] theorem Tryz.isPtr9:isPtrT Tryz.prog 9=false:=by kernel_rfl
@[simp] theorem Tryz.fld64_3:fldT Tryz.prog 64 3=some 3:=by kernel_rfl
@[simp] theorem Tryz.rd62:rdT Tryz.prog 62=some none:=by kernel_rfl
@[simp] theorem Tryz.fld64_0:fldT Tryz.prog 64 0=some 0:=by kernel_rfl
@[simp] theorem Tryz.bld25:bldT Tryz.prog 25=some ([(.int .i64 0),(.slice none 0 0),(.slice none 0 0),(.slice none 0 0)],[(0,1),(1,1),(2,1),(3,1)]):=by kernel_rfl
@[simp] theorem Tryz.isStr40:isStrT Tryz.prog 40=false:=by kernel_rfl
@[simp] theorem Tryz.isSl40:isSliceT Tryz.prog 40=true:=by kernel_rfl
@[simp] theorem Tryz.isMap40:isMapT Tryz.prog 40=false:=by kernel_rfl
@[simp] theorem Tryz.bld72:bldT Tryz.prog 72=some ([(.pointer none),(.slice none 0 0),(.int .i64 0)],[(0,1),(1,1),(2,1)]):=by kernel_rfl
@[simp] theorem Tryz.fld72_2:fldT Tryz.prog 72 2=some 2:=by kernel_rfl
@[simp] theorem Tryz.rd64:rdT Tryz.prog 64=some (some 4):=by kernel_rfl
@[simp] theorem Tryz.zero64:zeroT Tryz.prog 64=some (.agg #[(.int .i64 0),(.string ByteArray.empty),(.int .i64 0),(.slice none 0 0)]):=by kernel_rfl
@[simp] theorem Tryz.sz64:szT Tryz.prog 64=some 4:=by kernel_rfl
@[simp] theorem Tryz.zero27:zeroT Tryz.prog 27=some (.int .i64 0):=by kernel_rfl
@[simp] theorem Tryz.sz27:szT Tryz.prog 27=some 1:=by kernel_rfl
@[simp] theorem Tryz.zero69:zeroT Tryz.prog 69=some (.pointer none):=by kernel_rfl
@[simp] theorem Tryz.sz69:szT Tryz.prog 69=some 1:=by kernel_rfl
@[simp] theorem Tryz.el84:elT Tryz.prog 84=some (1,8,[(.int .i64 0)]):=by kernel_rfl
@[simp] theorem Tryz.isStr84:isStrT Tryz.prog 84=false:=by kernel_rfl
@[simp] theorem Tryz.isSl84:isSliceT Tryz.prog 84=true:=by kernel_rfl
@[simp] theorem Tryz.isMap84:isMapT Tryz.prog 84=false:=by kernel_rfl
@[simp] theorem Tryz.rd27:rdT Tryz.prog 27=some none:=by kernel_rfl
@[simp] theorem Tryz.rd69:rdT Tryz.prog 69=some none:=by kernel_rfl
@[simp] theorem Tryz.fld25_0:fldT Tryz.prog 25 0=some 0:=by kernel_rfl
@[simp] theorem Tryz.fld25_1:fldT Tryz.prog 25 1=some 1:=by kernel_rfl
@[simp] theorem Tryz.fld25_2:fldT Tryz.prog 25 2=some 2:=by kernel_rfl
@[simp] theorem Tryz.fld25_3:fldT Tryz.prog 25 3=some 3:=by kernel_rfl
@[simp] theorem Tryz.rd23:rdT Tryz.prog 23=some none:=by kernel_rfl
@[simp] theorem Tryz.isStr23:isStrT Tryz.prog 23=false:=by kernel_rfl
@[simp] theorem Tryz.isSl23:isSliceT Tryz.prog 23=true:=by kernel_rfl
@[simp] theorem Tryz.isMap23:isMapT Tryz.prog 23=false:=by kernel_rfl
@[simp] theorem Tryz.el23:elT Tryz.prog 23=some (6,104,[(.string ByteArray.empty),(.int .i64 0),(.int .i64 0),(.slice none 0 0),(.slice none 0 0),(.slice none 0 0)]):=by kernel_rfl
@[simp] theorem Tryz.fld94_0:fldT Tryz.prog 94 0=some 0:=by kernel_rfl
@[simp] theorem Tryz.fld94_1:fldT Tryz.prog 94 1=some 1:=by kernel_rfl
@[simp] theorem Tryz.fld94_2:fldT Tryz.prog 94 2=some 2:=by kernel_rfl
@[simp] theorem Tryz.fld51_0:fldT Tryz.prog 51 0=some 0:=by kernel_rfl
@[simp] theorem Tryz.fld51_1:fldT Tryz.prog 51 1=some 1:=by kernel_rfl
@[simp] theorem Tryz.zero98:zeroT Tryz.prog 98=some (.agg #[(.string ByteArray.empty),(.slice none 0 0),(.slice none 0 0)]):=by kernel_rfl
@[simp] theorem Tryz.sz98:szT Tryz.prog 98=some 3:=by kernel_rfl
@[simp] theorem Tryz.fld98_2:fldT Tryz.prog 98 2=some 2:=by kernel_rfl
@[simp] theorem Tryz.rd96:rdT Tryz.prog 96=some none:=by kernel_rfl
@[simp] theorem Tryz.el96:elT Tryz.prog 96=some (2,40,[(.string ByteArray.empty),(.slice none 0 0)]):=by kernel_rfl
@[simp] theorem Tryz.fld103_1:fldT Tryz.prog 103 1=some 1:=by kernel_rfl
@[simp] theorem Tryz.rd101:rdT Tryz.prog 101=some none:=by kernel_rfl
@[simp] theorem Tryz.isStr101:isStrT Tryz.prog 101=false:=by kernel_rfl
@[simp] theorem Tryz.isSl101:isSliceT Tryz.prog 101=true:=by kernel_rfl
@[simp] theorem Tryz.isMap101:isMapT Tryz.prog 101=false:=by kernel_rfl
@[simp] theorem Tryz.fld51_3:fldT Tryz.prog 51 3=some 3:=by kernel_rfl
@[simp] theorem Tryz.rd26:rdT Tryz.prog 26=some none:=by kernel_rfl
@[simp] theorem Tryz.zero3:zeroT Tryz.prog 3=some (.int .i64 0):=by kernel_rfl
@[simp] theorem Tryz.sz22:szT Tryz.prog 22=some 1:=by kernel_rfl
@[simp] theorem Tryz.zero51:zeroT Tryz.prog 51=some (.agg #[(.int .i64 0),(.string ByteArray.empty),(.int .i64 0),(.slice none 0 0)]):=by kernel_rfl
@[simp] theorem Tryz.sz51:szT Tryz.prog 51=some 4:=by kernel_rfl
@[simp] theorem Tryz.rd94:rdT Tryz.prog 94=some (some 6):=by kernel_rfl
@[simp] theorem Tryz.zero94:zeroT Tryz.prog 94=some (.agg #[(.string ByteArray.empty),(.int .i64 0),(.int .i64 0),(.slice none 0 0),(.slice none 0 0),(.slice none 0 0)]):=by kernel_rfl
@[simp] theorem Tryz.sz94:szT Tryz.prog 94=some 6:=by kernel_rfl
@[simp] theorem Tryz.fld51_2:fldT Tryz.prog 51 2=some 2:=by kernel_rfl
@[simp] theorem Tryz.mp60:mapT Tryz.prog 60=some ((.int .i64),(.bool false)):=by kernel_rfl
@[simp] theorem Tryz.bld64:bldT Tryz.prog 64=some ([(.int .i64 0),(.string ByteArray.empty),(.int .i64 0),(.slice none 0 0)],[(0,1),(1,1),(2,1),(3,1)]):=by kernel_rfl
@[simp] theorem Tryz.bld119:bldT Tryz.prog 119=some ([(.pointer none),(.slice none 0 0),(.int .i64 0),(.map none)],[(0,1),(1,1),(2,1),(3,1)]):=by kernel_rfl
@[simp] theorem Tryz.bld125:bldT Tryz.prog 125=some ([(.map none),(.map none)],[(0,1),(1,1)]):=by kernel_rfl
@[simp] theorem Tryz.fld39_0:fldT Tryz.prog 39 0=some 0:=by kernel_rfl
@[simp] theorem Tryz.rd35:rdT Tryz.prog 35=some none:=by kernel_rfl
@[simp] theorem Tryz.el35:elT Tryz.prog 35=some (3,64,[(.string ByteArray.empty),(.slice none 0 0),(.slice none 0 0)]):=by kernel_rfl
@[simp] theorem Tryz.notInt35:notInt Tryz.prog 35=true:=by kernel_rfl
@[simp] theorem Tryz.isStr35:isStrT Tryz.prog 35=false:=by kernel_rfl
@[simp] theorem Tryz.isSl35:isSliceT Tryz.prog 35=true:=by kernel_rfl
@[simp] theorem Tryz.isMap35:isMapT Tryz.prog 35=false:=by kernel_rfl
@[simp] theorem Tryz.rd98:rdT Tryz.prog 98=some (some 3):=by kernel_rfl
@[simp] theorem Tryz.isStr96:isStrT Tryz.prog 96=false:=by kernel_rfl
@[simp] theorem Tryz.isSl96:isSliceT Tryz.prog 96=true:=by kernel_rfl
@[simp] theorem Tryz.isMap96:isMapT Tryz.prog 96=false:=by kernel_rfl
@[simp] theorem Tryz.rd103:rdT Tryz.prog 103=some (some 2):=by kernel_rfl
@[simp] theorem Tryz.zero103:zeroT Tryz.prog 103=some (.agg #[(.string ByteArray.empty),(.slice none 0 0)]):=by kernel_rfl
@[simp] theorem Tryz.sz103:szT Tryz.prog 103=some 2:=by kernel_rfl
@[simp] theorem Tryz.fld125_0:fldT Tryz.prog 125 0=some 0:=by kernel_rfl
@[simp] theorem Tryz.rd122:rdT Tryz.prog 122=some none:=by kernel_rfl
@[simp] theorem Tryz.fld103_0:fldT Tryz.prog 103 0=some 0:=by kernel_rfl
@[simp] theorem Tryz.fld125_1:fldT Tryz.prog 125 1=some 1:=by kernel_rfl
@[simp] theorem Tryz.rd123:rdT Tryz.prog 123=some none:=by kernel_rfl
@[simp] theorem Tryz.rd68:rdT Tryz.prog 68=some none:=by kernel_rfl
@[simp] theorem Tryz.rd74:rdT Tryz.prog 74=some none:=by kernel_rfl
@[simp] theorem Tryz.fld72_1:fldT Tryz.prog 72 1=some 1:=by kernel_rfl
@[simp] theorem Tryz.rd40:rdT Tryz.prog 40=some none:=by kernel_rfl
@[simp] theorem Tryz.el74:elT Tryz.prog 74=some (1,24,[(.slice none 0 0)]):=by kernel_rfl
@[simp] theorem Tryz.bld94:bldT Tryz.prog 94=some ([(.string ByteArray.empty),(.int .i64 0),(.int .i64 0),(.slice none 0 0),(.slice none 0 0),(.slice none 0 0)],[(0,1),(1,1),(2,4)]):=by kernel_rfl
@[simp] theorem Tryz.notInt74:notInt Tryz.prog 74=true:=by kernel_rfl
@[simp] theorem Tryz.bld137:bldT Tryz.prog 137=some ([(.slice none 0 0),(.slice none 0 0),(.int .i64 0)],[(0,1),(1,1),(2,1)]):=by kernel_rfl
@[simp] theorem Tryz.fld137_2:fldT Tryz.prog 137 2=some 2:=by kernel_rfl
@[simp] theorem Tryz.el95:elT Tryz.prog 95=some (1,16,[(.string ByteArray.empty)]):=by kernel_rfl
@[simp] theorem Tryz.notInt95:notInt Tryz.prog 95=true:=by kernel_rfl
@[simp] theorem Tryz.isStr95:isStrT Tryz.prog 95=false:=by kernel_rfl
@[simp] theorem Tryz.isSl95:isSliceT Tryz.prog 95=true:=by kernel_rfl
@[simp] theorem Tryz.isMap95:isMapT Tryz.prog 95=false:=by kernel_rfl
@[simp] theorem Tryz.fld64_2:fldT Tryz.prog 64 2=some 2:=by kernel_rfl
@[simp] theorem Tryz.el150:elT Tryz.prog 150=some (1,8,[.nilFunc]):=by kernel_rfl
@[simp] theorem Tryz.isStr150:isStrT Tryz.prog 150=false:=by kernel_rfl
@[simp] theorem Tryz.isSl150:isSliceT Tryz.prog 150=true:=by kernel_rfl
@[simp] theorem Tryz.isMap150:isMapT Tryz.prog 150=false:=by kernel_rfl
@[simp] theorem Tryz.rd83:rdT Tryz.prog 83=some none:=by kernel_rfl
@[simp] theorem Tryz.mp122:mapT Tryz.prog 122=some (.string,(.agg #[(.string ByteArray.empty),(.slice none 0 0),(.slice none 0 0)])):=by kernel_rfl
@[simp] theorem Tryz.mp123:mapT Tryz.prog 123=some (.string,(.int .i64 0)):=by kernel_rfl
@[simp] theorem Tryz.fldV98_0:fldV Tryz.prog 98 0=some (0,none):=by kernel_rfl
@[simp] theorem Tryz.el101:elT Tryz.prog 101=some (2,40,[(.string ByteArray.empty),(.slice none 0 0)]):=by kernel_rfl
@[simp] theorem Tryz.rd155:rdT Tryz.prog 155=some (some 2):=by kernel_rfl
@[simp] theorem Tryz.bld98:bldT Tryz.prog 98=some ([(.string ByteArray.empty),(.slice none 0 0),(.slice none 0 0)],[(0,1),(1,1),(2,1)]):=by kernel_rfl
@[simp] theorem Tryz.bld51:bldT Tryz.prog 51=some ([(.int .i64 0),(.string ByteArray.empty),(.int .i64 0),(.slice none 0 0)],[(0,1),(1,1),(2,1),(3,1)]):=by kernel_rfl
@[simp] theorem Tryz.rd116:rdT Tryz.prog 116=some none:=by kernel_rfl
@[simp] theorem Tryz.fld119_1:fldT Tryz.prog 119 1=some 1:=by kernel_rfl
@[simp] theorem Tryz.isStr74:isStrT Tryz.prog 74=false:=by kernel_rfl
@[simp] theorem Tryz.isSl74:isSliceT Tryz.prog 74=true:=by kernel_rfl
@[simp] theorem Tryz.isMap74:isMapT Tryz.prog 74=false:=by kernel_rfl
@[simp] theorem Tryz.fld119_3:fldT Tryz.prog 119 3=some 3:=by kernel_rfl
@[simp] theorem Tryz.rd117:rdT Tryz.prog 117=some none:=by kernel_rfl
@[simp] theorem Tryz.bld155:bldT Tryz.prog 155=some ([(.string ByteArray.empty),(.slice none 0 0)],[(0,1),(1,1)]):=by kernel_rfl
@[simp] theorem Tryz.zero155:zeroT Tryz.prog 155=some (.agg #[(.string ByteArray.empty),(.slice none 0 0)]):=by kernel_rfl
@[simp] theorem Tryz.sz155:szT Tryz.prog 155=some 2:=by kernel_rfl
@[simp] theorem Tryz.bld103:bldT Tryz.prog 103=some ([(.string ByteArray.empty),(.slice none 0 0)],[(0,1),(1,1)]):=by kernel_rfl
@[simp] theorem Tryz.fldV64_0:fldV Tryz.prog 64 0=some (0,none):=by kernel_rfl
@[simp] theorem Tryz.notInt62:notInt Tryz.prog 62=true:=by kernel_rfl
@[simp] theorem Tryz.notInt23:notInt Tryz.prog 23=true:=by kernel_rfl
@[simp] theorem Tryz.sz23:szT Tryz.prog 23=some 1:=by kernel_rfl
@[simp] theorem Tryz.fld137_1:fldT Tryz.prog 137 1=some 1:=by kernel_rfl
@[simp] theorem Tryz.fld39_1:fldT Tryz.prog 39 1=some 1:=by kernel_rfl
@[simp] theorem Tryz.rd36:rdT Tryz.prog 36=some none:=by kernel_rfl
@[simp] theorem Tryz.isStr36:isStrT Tryz.prog 36=false:=by kernel_rfl
@[simp] theorem Tryz.isSl36:isSliceT Tryz.prog 36=true:=by kernel_rfl
@[simp] theorem Tryz.isMap36:isMapT Tryz.prog 36=false:=by kernel_rfl
@[simp] theorem Tryz.fld39_2:fldT Tryz.prog 39 2=some 2:=by kernel_rfl
@[simp] theorem Tryz.rd37:rdT Tryz.prog 37=some none:=by kernel_rfl
@[simp] theorem Tryz.isStr37:isStrT Tryz.prog 37=false:=by kernel_rfl
@[simp] theorem Tryz.isSl37:isSliceT Tryz.prog 37=true:=by kernel_rfl
@[simp] theorem Tryz.isMap37:isMapT Tryz.prog 37=false:=by kernel_rfl
@[simp] theorem Tryz.el36:elT Tryz.prog 36=some (3,64,[(.string ByteArray.empty),(.slice none 0 0),(.slice none 0 0)]):=by kernel_rfl
@[simp] theorem Tryz.rd194:rdT Tryz.prog 194=some (some 3):=by kernel_rfl
@[simp] theorem Tryz.zero194:zeroT Tryz.prog 194=some (.agg #[(.string ByteArray.empty),(.slice none 0 0),(.slice none 0 0)]):=by kernel_rfl
@[simp] theorem Tryz.sz194:szT Tryz.prog 194=some 3:=by kernel_rfl
@[simp] theorem Tryz.fld194_2:fldT Tryz.prog 194 2=some 2:=by kernel_rfl
@[simp] theorem Tryz.rd192:rdT Tryz.prog 192=some none:=by kernel_rfl
@[simp] theorem Tryz.isStr192:isStrT Tryz.prog 192=false:=by kernel_rfl
@[simp] theorem Tryz.isSl192:isSliceT Tryz.prog 192=true:=by kernel_rfl
@[simp] theorem Tryz.isMap192:isMapT Tryz.prog 192=false:=by kernel_rfl
@[simp] theorem Tryz.el37:elT Tryz.prog 37=some (4,80,[(.string ByteArray.empty),(.string ByteArray.empty),(.slice none 0 0),(.slice none 0 0)]):=by kernel_rfl
@[simp] theorem Tryz.rd198:rdT Tryz.prog 198=some (some 4):=by kernel_rfl
@[simp] theorem Tryz.zero198:zeroT Tryz.prog 198=some (.agg #[(.string ByteArray.empty),(.string ByteArray.empty),(.slice none 0 0),(.slice none 0 0)]):=by kernel_rfl
@[simp] theorem Tryz.sz198:szT Tryz.prog 198=some 4:=by kernel_rfl
@[simp] theorem Tryz.fld198_2:fldT Tryz.prog 198 2=some 2:=by kernel_rfl
@[simp] theorem Tryz.rd195:rdT Tryz.prog 195=some none:=by kernel_rfl
@[simp] theorem Tryz.isStr195:isStrT Tryz.prog 195=false:=by kernel_rfl
@[simp] theorem Tryz.isSl195:isSliceT Tryz.prog 195=true:=by kernel_rfl
@[simp] theorem Tryz.isMap195:isMapT Tryz.prog 195=false:=by kernel_rfl
@[simp] theorem Tryz.fld98_0:fldT Tryz.prog 98 0=some 0:=by kernel_rfl
@[simp] theorem Tryz.fld98_1:fldT Tryz.prog 98 1=some 1:=by kernel_rfl
@[simp] theorem Tryz.rd95:rdT Tryz.prog 95=some none:=by kernel_rfl
@[simp] theorem Tryz.fld194_0:fldT Tryz.prog 194 0=some 0:=by kernel_rfl
@[simp] theorem Tryz.fld194_1:fldT Tryz.prog 194 1=some 1:=by kernel_rfl
@[simp] theorem Tryz.el192:elT Tryz.prog 192=some (4,80,[(.string ByteArray.empty),(.slice none 0 0),(.string ByteArray.empty),(.slice none 0 0)]):=by kernel_rfl
@[simp] theorem Tryz.rd200:rdT Tryz.prog 200=some (some 4):=by kernel_rfl
@[simp] theorem Tryz.zero200:zeroT Tryz.prog 200=some (.agg #[(.string ByteArray.empty),(.slice none 0 0),(.string ByteArray.empty),(.slice none 0 0)]):=by kernel_rfl
@[simp] theorem Tryz.sz200:szT Tryz.prog 200=some 4:=by kernel_rfl
@[simp] theorem Tryz.fld200_0:fldT Tryz.prog 200 0=some 0:=by kernel_rfl
@[simp] theorem Tryz.fld200_1:fldT Tryz.prog 200 1=some 1:=by kernel_rfl
@[simp] theorem Tryz.fld198_0:fldT Tryz.prog 198 0=some 0:=by kernel_rfl
@[simp] theorem Tryz.fld198_1:fldT Tryz.prog 198 1=some 1:=by kernel_rfl
@[simp] theorem Tryz.el195:elT Tryz.prog 195=some (3,56,[(.string ByteArray.empty),(.string ByteArray.empty),(.slice none 0 0)]):=by kernel_rfl
@[simp] theorem Tryz.rd203:rdT Tryz.prog 203=some (some 3):=by kernel_rfl
@[simp] theorem Tryz.zero203:zeroT Tryz.prog 203=some (.agg #[(.string ByteArray.empty),(.string ByteArray.empty),(.slice none 0 0)]):=by kernel_rfl
@[simp] theorem Tryz.sz203:szT Tryz.prog 203=some 3:=by kernel_rfl
@[simp] theorem Tryz.fld203_0:fldT Tryz.prog 203 0=some 0:=by kernel_rfl
@[simp] theorem Tryz.fld203_1:fldT Tryz.prog 203 1=some 1:=by kernel_rfl
@[simp] theorem Tryz.fld155_1:fldT Tryz.prog 155 1=some 1:=by kernel_rfl
@[simp] theorem Tryz.fld155_0:fldT Tryz.prog 155 0=some 0:=by kernel_rfl
@[simp] theorem Tryz.fld200_2:fldT Tryz.prog 200 2=some 2:=by kernel_rfl
@[simp] theorem Tryz.rd143:rdT Tryz.prog 143=some none:=by kernel_rfl
@[simp] theorem Tryz.notInt101:notInt Tryz.prog 101=true:=by kernel_rfl
@[simp] theorem Tryz.fld119_2:fldT Tryz.prog 119 2=some 2:=by kernel_rfl
@[simp] theorem Tryz.zero173:zeroT Tryz.prog 173=some (.agg #[(.int .i64 0),(.int .i64 0),(.int .i64 0),(.int .i64 0),(.int .i64 0),(.int .i64 0),(.int .i64 0),(.int .i64 0)]):=by kernel_rfl
@[simp] theorem Tryz.arr173:arrT Tryz.prog 173=some (8,1):=by kernel_rfl
@[simp] theorem Tryz.el173:elT Tryz.prog 173=none:=by kernel_rfl
@[simp] theorem Tryz.isStr173:isStrT Tryz.prog 173=false:=by kernel_rfl
@[simp] theorem Tryz.isSl173:isSliceT Tryz.prog 173=false:=by kernel_rfl
@[simp] theorem Tryz.isMap173:isMapT Tryz.prog 173=false:=by kernel_rfl
@[simp] theorem Tryz.rd173:rdT Tryz.prog 173=some (some 8):=by kernel_rfl
@[simp] theorem Tryz.sz173:szT Tryz.prog 173=some 8:=by kernel_rfl
@[simp] theorem Tryz.fld119_0:fldT Tryz.prog 119 0=some 0:=by kernel_rfl
@[simp] theorem Tryz.fldV98_2:fldV Tryz.prog 98 2=some (2,none):=by kernel_rfl
@[simp] theorem Tryz.sz62:szT Tryz.prog 62=some 1:=by kernel_rfl
@[simp] theorem Tryz.und3:Program.underlying Tryz.prog 3=some (.int .i64):=by kernel_rfl
@[simp] theorem Tryz.und112:Program.underlying Tryz.prog 112=some (.int .u64):=by kernel_rfl
@[simp] theorem Tryz.fld72_0:fldT Tryz.prog 72 0=some 0:=by kernel_rfl
@[simp] theorem Tryz.el262:elT Tryz.prog 262=some (1,24,[(.slice none 0 0)]):=by kernel_rfl
@[simp] theorem Tryz.isStr9:isStrT Tryz.prog 9=true:=by kernel_rfl
@[simp] theorem Tryz.isSl9:isSliceT Tryz.prog 9=false:=by kernel_rfl
@[simp] theorem Tryz.isMap9:isMapT Tryz.prog 9=false:=by kernel_rfl
@[simp] theorem Tryz.isPtr5:isPtrT Tryz.prog 5=false:=by kernel_rfl
@[simp] theorem Tryz.zero4:zeroT Tryz.prog 4=some (.bool false):=by kernel_rfl
@[simp] theorem Tryz.sz4:szT Tryz.prog 4=some 1:=by kernel_rfl
@[simp] theorem Tryz.rd4:rdT Tryz.prog 4=some none:=by kernel_rfl
@[simp] theorem Tryz.mp246:mapT Tryz.prog 246=some (.string,(.bool false)):=by kernel_rfl
@[simp] theorem Tryz.isStr246:isStrT Tryz.prog 246=false:=by kernel_rfl
@[simp] theorem Tryz.isSl246:isSliceT Tryz.prog 246=false:=by kernel_rfl
@[simp] theorem Tryz.isMap246:isMapT Tryz.prog 246=true:=by kernel_rfl
@[simp] theorem Tryz.bld194:bldT Tryz.prog 194=some ([(.string ByteArray.empty),(.slice none 0 0),(.slice none 0 0)],[(0,1),(1,1),(2,1)]):=by kernel_rfl
@[simp] theorem Tryz.isPtr62:isPtrT Tryz.prog 62=false:=by kernel_rfl
@[simp] theorem Tryz.isPtr159:isPtrT Tryz.prog 159=false:=by kernel_rfl
@[simp] theorem Tryz.fld137_0:fldT Tryz.prog 137 0=some 0:=by kernel_rfl
@[simp] theorem Tryz.zero267:zeroT Tryz.prog 267=some .nilFunc:=by kernel_rfl
@[simp] theorem Tryz.sz267:szT Tryz.prog 267=some 1:=by kernel_rfl
@[simp] theorem Tryz.rd267:rdT Tryz.prog 267=some none:=by kernel_rfl
@[simp] theorem Tryz.und227:Program.underlying Tryz.prog 227=some (.int .u64):=by kernel_rfl
@[simp] theorem Tryz.zero227:zeroT Tryz.prog 227=some (.int .u64 0):=by kernel_rfl
@[simp] theorem Tryz.sz227:szT Tryz.prog 227=some 1:=by kernel_rfl
@[simp] theorem Tryz.isPtr112:isPtrT Tryz.prog 112=false:=by kernel_rfl
theorem Tryz.mixed:Tryz.prog.follows .mixedOrders=true:=by kernel_rfl
end Go.Proofs
