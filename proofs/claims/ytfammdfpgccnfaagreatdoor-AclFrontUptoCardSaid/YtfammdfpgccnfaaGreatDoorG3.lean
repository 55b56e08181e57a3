/- Parts of the proof, laid together. -/
import Derived.Test.YtfammdfpgccnfaaGreatDoorG2
import Derived.Test.YtfammdfpgccnfaaGreatDoorProg
import Derived.WalkKit
import Derived.ArgAppend
import Derived.Deep.RegionWith
import Derived.BigQuiet
set_option linter.unusedVariables false
set_option linter.unusedSimpArgs false
set_option maxRecDepth 100000
set_option maxHeartbeats 8000000
namespace Go.Proofs.YtfammdfpgccnfaaGreatDoor
open Go Go.RowKit
@[go_sem] theorem ty2_kd:kdOf Tryz.prog 2=Kd.int IntKind.i64:=by kernel_rfl
@[go_sem] theorem ty2_sz:szOf Tryz.prog 2=1:=by kernel_rfl
@[go_sem] theorem ty2_ok:tyok Tryz.prog 2=true:=by kernel_rfl
@[go_sem] theorem ty3_kd:kdOf Tryz.prog 3=Kd.int IntKind.i64:=by kernel_rfl
@[go_sem] theorem ty3_sz:szOf Tryz.prog 3=1:=by kernel_rfl
@[go_sem] theorem ty3_ok:tyok Tryz.prog 3=true:=by kernel_rfl
@[go_sem] theorem ty3_z:zeroOf Tryz.prog 3=[C.d (D.v (Value.int IntKind.i64 0))]:=by kernel_rfl
@[go_sem] theorem ty4_kd:kdOf Tryz.prog 4=Kd.bool:=by kernel_rfl
@[go_sem] theorem ty4_sz:szOf Tryz.prog 4=1:=by kernel_rfl
@[go_sem] theorem ty4_ok:tyok Tryz.prog 4=true:=by kernel_rfl
@[go_sem] theorem ty5_kd:kdOf Tryz.prog 5=Kd.int IntKind.u8:=by kernel_rfl
@[go_sem] theorem ty5_sz:szOf Tryz.prog 5=1:=by kernel_rfl
@[go_sem] theorem ty5_by:byOf Tryz.prog 5=1:=by kernel_rfl
@[go_sem] theorem ty5_ok:tyok Tryz.prog 5=true:=by kernel_rfl
@[go_sem] theorem ty5_z:zeroOf Tryz.prog 5=[C.d (D.v (Value.int IntKind.u8 0))]:=by kernel_rfl
@[go_sem] theorem ty9_kd:kdOf Tryz.prog 9=Kd.str:=by kernel_rfl
@[go_sem] theorem ty9_sz:szOf Tryz.prog 9=1:=by kernel_rfl
@[go_sem] theorem ty9_ok:tyok Tryz.prog 9=true:=by kernel_rfl
@[go_sem] theorem ty22_kd:kdOf Tryz.prog 22=Kd.sl 5:=by kernel_rfl
@[go_sem] theorem ty22_sz:szOf Tryz.prog 22=1:=by kernel_rfl
@[go_sem] theorem ty22_by:byOf Tryz.prog 22=24:=by kernel_rfl
@[go_sem] theorem ty22_ok:tyok Tryz.prog 22=true:=by kernel_rfl
@[go_sem] theorem ty22_z:zeroOf Tryz.prog 22=[C.nil]:=by kernel_rfl
@[go_sem] theorem ty24_kd:kdOf Tryz.prog 24=Kd.st:=by kernel_rfl
@[go_sem] theorem ty24_sz:szOf Tryz.prog 24=2:=by kernel_rfl
@[go_sem] theorem ty24_by:byOf Tryz.prog 24=32:=by kernel_rfl
@[go_sem] theorem ty24_ok:tyok Tryz.prog 24=true:=by kernel_rfl
@[go_sem] theorem ty24_z:zeroOf Tryz.prog 24=[C.d (D.v (Value.bool false)),C.nil]:=by kernel_rfl
@[go_sem] theorem ty24_f0:fldOf Tryz.prog 24 0=(0,4):=by kernel_rfl
@[go_sem] theorem ty24_i0:isFld Tryz.prog 24 0=true:=by kernel_rfl
@[go_sem] theorem ty24_f1:fldOf Tryz.prog 24 1=(1,22):=by kernel_rfl
@[go_sem] theorem ty24_i1:isFld Tryz.prog 24 1=true:=by kernel_rfl
@[go_sem] theorem ty24_b:bldOk Tryz.prog 24=true:=by kernel_rfl
@[go_sem] theorem ty25_kd:kdOf Tryz.prog 25=Kd.sl 22:=by kernel_rfl
@[go_sem] theorem ty25_sz:szOf Tryz.prog 25=1:=by kernel_rfl
@[go_sem] theorem ty25_ok:tyok Tryz.prog 25=true:=by kernel_rfl
@[go_sem] theorem ty26_kd:kdOf Tryz.prog 26=Kd.sl 28:=by kernel_rfl
@[go_sem] theorem ty26_sz:szOf Tryz.prog 26=1:=by kernel_rfl
@[go_sem] theorem ty26_ok:tyok Tryz.prog 26=true:=by kernel_rfl
@[go_sem] theorem ty28_kd:kdOf Tryz.prog 28=Kd.st:=by kernel_rfl
@[go_sem] theorem ty28_sz:szOf Tryz.prog 28=6:=by kernel_rfl
@[go_sem] theorem ty28_by:byOf Tryz.prog 28=96:=by kernel_rfl
@[go_sem] theorem ty28_ok:tyok Tryz.prog 28=true:=by kernel_rfl
@[go_sem] theorem ty28_z:zeroOf Tryz.prog 28=[C.d (D.v (Value.int IntKind.u8 0)),C.d (D.v (Value.bool false)),C.nil,C.nil,C.d (D.v (Value.int IntKind.i64 0)),C.nil]:=by kernel_rfl
@[go_sem] theorem ty28_f0:fldOf Tryz.prog 28 0=(0,5):=by kernel_rfl
@[go_sem] theorem ty28_i0:isFld Tryz.prog 28 0=true:=by kernel_rfl
@[go_sem] theorem ty28_f1:fldOf Tryz.prog 28 1=(1,24):=by kernel_rfl
@[go_sem] theorem ty28_i1:isFld Tryz.prog 28 1=true:=by kernel_rfl
@[go_sem] theorem ty28_f2:fldOf Tryz.prog 28 2=(3,25):=by kernel_rfl
@[go_sem] theorem ty28_i2:isFld Tryz.prog 28 2=true:=by kernel_rfl
@[go_sem] theorem ty28_f3:fldOf Tryz.prog 28 3=(4,3):=by kernel_rfl
@[go_sem] theorem ty28_i3:isFld Tryz.prog 28 3=true:=by kernel_rfl
@[go_sem] theorem ty28_f4:fldOf Tryz.prog 28 4=(5,26):=by kernel_rfl
@[go_sem] theorem ty28_i4:isFld Tryz.prog 28 4=true:=by kernel_rfl
@[go_sem] theorem ty28_b:bldOk Tryz.prog 28=true:=by kernel_rfl
@[go_sem] theorem ty29_kd:kdOf Tryz.prog 29=Kd.sl 35:=by kernel_rfl
@[go_sem] theorem ty29_sz:szOf Tryz.prog 29=1:=by kernel_rfl
@[go_sem] theorem ty29_ok:tyok Tryz.prog 29=true:=by kernel_rfl
@[go_sem] theorem ty31_kd:kdOf Tryz.prog 31=Kd.st:=by kernel_rfl
@[go_sem] theorem ty31_sz:szOf Tryz.prog 31=3:=by kernel_rfl
@[go_sem] theorem ty31_ok:tyok Tryz.prog 31=true:=by kernel_rfl
@[go_sem] theorem ty31_z:zeroOf Tryz.prog 31=[C.d (D.v (Value.bool false)),C.d (D.v (Value.bool false)),C.nil]:=by kernel_rfl
@[go_sem] theorem ty31_f0:fldOf Tryz.prog 31 0=(0,4):=by kernel_rfl
@[go_sem] theorem ty31_i0:isFld Tryz.prog 31 0=true:=by kernel_rfl
@[go_sem] theorem ty31_f1:fldOf Tryz.prog 31 1=(1,4):=by kernel_rfl
@[go_sem] theorem ty31_i1:isFld Tryz.prog 31 1=true:=by kernel_rfl
@[go_sem] theorem ty31_f2:fldOf Tryz.prog 31 2=(2,22):=by kernel_rfl
@[go_sem] theorem ty31_i2:isFld Tryz.prog 31 2=true:=by kernel_rfl
@[go_sem] theorem ty31_b:bldOk Tryz.prog 31=true:=by kernel_rfl
@[go_sem] theorem ty33_kd:kdOf Tryz.prog 33=Kd.st:=by kernel_rfl
@[go_sem] theorem ty33_sz:szOf Tryz.prog 33=7:=by kernel_rfl
@[go_sem] theorem ty33_ok:tyok Tryz.prog 33=true:=by kernel_rfl
@[go_sem] theorem ty33_z:zeroOf Tryz.prog 33=[C.d (D.v (Value.int IntKind.u8 0)),C.d (D.v (Value.bool false)),C.d (D.v (Value.bool false)),C.nil,C.d (D.v (Value.bool false)),C.d (D.v (Value.bool false)),C.nil]:=by kernel_rfl
@[go_sem] theorem ty33_f0:fldOf Tryz.prog 33 0=(0,5):=by kernel_rfl
@[go_sem] theorem ty33_i0:isFld Tryz.prog 33 0=true:=by kernel_rfl
@[go_sem] theorem ty33_f1:fldOf Tryz.prog 33 1=(1,31):=by kernel_rfl
@[go_sem] theorem ty33_i1:isFld Tryz.prog 33 1=true:=by kernel_rfl
@[go_sem] theorem ty33_f2:fldOf Tryz.prog 33 2=(4,31):=by kernel_rfl
@[go_sem] theorem ty33_i2:isFld Tryz.prog 33 2=true:=by kernel_rfl
@[go_sem] theorem ty33_b:bldOk Tryz.prog 33=true:=by kernel_rfl
@[go_sem] theorem ty35_kd:kdOf Tryz.prog 35=Kd.st:=by kernel_rfl
@[go_sem] theorem ty35_sz:szOf Tryz.prog 35=10:=by kernel_rfl
@[go_sem] theorem ty35_by:byOf Tryz.prog 35=128:=by kernel_rfl
@[go_sem] theorem ty35_ok:tyok Tryz.prog 35=true:=by kernel_rfl
@[go_sem] theorem ty35_z:zeroOf Tryz.prog 35=[C.d (D.v (Value.int IntKind.u8 0)),C.nil,C.nil,C.d (D.v (Value.int IntKind.u8 0)),C.d (D.v (Value.bool false)),C.d (D.v (Value.bool false)),C.nil,C.d (D.v (Value.bool false)),C.d (D.v (Value.bool false)),C.nil]:=by kernel_rfl
@[go_sem] theorem ty35_f0:fldOf Tryz.prog 35 0=(0,5):=by kernel_rfl
@[go_sem] theorem ty35_i0:isFld Tryz.prog 35 0=true:=by kernel_rfl
@[go_sem] theorem ty35_f1:fldOf Tryz.prog 35 1=(1,22):=by kernel_rfl
@[go_sem] theorem ty35_i1:isFld Tryz.prog 35 1=true:=by kernel_rfl
@[go_sem] theorem ty35_f2:fldOf Tryz.prog 35 2=(2,29):=by kernel_rfl
@[go_sem] theorem ty35_i2:isFld Tryz.prog 35 2=true:=by kernel_rfl
@[go_sem] theorem ty35_f3:fldOf Tryz.prog 35 3=(3,33):=by kernel_rfl
@[go_sem] theorem ty35_i3:isFld Tryz.prog 35 3=true:=by kernel_rfl
@[go_sem] theorem ty35_b:bldOk Tryz.prog 35=true:=by kernel_rfl
@[go_sem] theorem ty37_kd:kdOf Tryz.prog 37=Kd.st:=by kernel_rfl
@[go_sem] theorem ty37_sz:szOf Tryz.prog 37=4:=by kernel_rfl
@[go_sem] theorem ty37_ok:tyok Tryz.prog 37=true:=by kernel_rfl
@[go_sem] theorem ty37_z:zeroOf Tryz.prog 37=[C.d (D.v (Value.bool false)),C.d (D.v (Value.int IntKind.i64 0)),C.d (D.v (Value.bool false)),C.d (D.v (Value.int IntKind.i64 0))]:=by kernel_rfl
@[go_sem] theorem ty37_f0:fldOf Tryz.prog 37 0=(0,4):=by kernel_rfl
@[go_sem] theorem ty37_i0:isFld Tryz.prog 37 0=true:=by kernel_rfl
@[go_sem] theorem ty37_f1:fldOf Tryz.prog 37 1=(1,2):=by kernel_rfl
@[go_sem] theorem ty37_i1:isFld Tryz.prog 37 1=true:=by kernel_rfl
@[go_sem] theorem ty37_f2:fldOf Tryz.prog 37 2=(2,4):=by kernel_rfl
@[go_sem] theorem ty37_i2:isFld Tryz.prog 37 2=true:=by kernel_rfl
@[go_sem] theorem ty37_f3:fldOf Tryz.prog 37 3=(3,2):=by kernel_rfl
@[go_sem] theorem ty37_i3:isFld Tryz.prog 37 3=true:=by kernel_rfl
@[go_sem] theorem ty37_b:bldOk Tryz.prog 37=true:=by kernel_rfl
@[go_sem] theorem ty43_kd:kdOf Tryz.prog 43=Kd.sl 45:=by kernel_rfl
@[go_sem] theorem ty43_sz:szOf Tryz.prog 43=1:=by kernel_rfl
@[go_sem] theorem ty43_ok:tyok Tryz.prog 43=true:=by kernel_rfl
@[go_sem] theorem ty45_kd:kdOf Tryz.prog 45=Kd.st:=by kernel_rfl
@[go_sem] theorem ty45_sz:szOf Tryz.prog 45=5:=by kernel_rfl
@[go_sem] theorem ty45_by:byOf Tryz.prog 45=80:=by kernel_rfl
@[go_sem] theorem ty45_ok:tyok Tryz.prog 45=true:=by kernel_rfl
@[go_sem] theorem ty45_z:zeroOf Tryz.prog 45=[C.d (D.v (Value.bool false)),C.d (D.v (Value.bool false)),C.nil,C.nil,C.nil]:=by kernel_rfl
@[go_sem] theorem ty45_f0:fldOf Tryz.prog 45 0=(0,4):=by kernel_rfl
@[go_sem] theorem ty45_i0:isFld Tryz.prog 45 0=true:=by kernel_rfl
@[go_sem] theorem ty45_f1:fldOf Tryz.prog 45 1=(1,4):=by kernel_rfl
@[go_sem] theorem ty45_i1:isFld Tryz.prog 45 1=true:=by kernel_rfl
@[go_sem] theorem ty45_f2:fldOf Tryz.prog 45 2=(2,22):=by kernel_rfl
@[go_sem] theorem ty45_i2:isFld Tryz.prog 45 2=true:=by kernel_rfl
@[go_sem] theorem ty45_f3:fldOf Tryz.prog 45 3=(3,22):=by kernel_rfl
@[go_sem] theorem ty45_i3:isFld Tryz.prog 45 3=true:=by kernel_rfl
@[go_sem] theorem ty45_f4:fldOf Tryz.prog 45 4=(4,43):=by kernel_rfl
@[go_sem] theorem ty45_i4:isFld Tryz.prog 45 4=true:=by kernel_rfl
@[go_sem] theorem ty45_b:bldOk Tryz.prog 45=true:=by kernel_rfl
@[go_sem] theorem ty50_kd:kdOf Tryz.prog 50=Kd.sl 54:=by kernel_rfl
@[go_sem] theorem ty54_kd:kdOf Tryz.prog 54=Kd.st:=by kernel_rfl
@[go_sem] theorem ty54_sz:szOf Tryz.prog 54=21:=by kernel_rfl
@[go_sem] theorem ty54_by:byOf Tryz.prog 54=264:=by kernel_rfl
@[go_sem] theorem ty54_ok:tyok Tryz.prog 54=true:=by kernel_rfl
@[go_sem] theorem ty54_z:zeroOf Tryz.prog 54=[C.d (D.v (Value.int IntKind.u8 0)),C.d (D.v (Value.bool false)),C.nil,C.nil,C.d (D.v (Value.int IntKind.i64 0)),C.nil,C.d (D.v (Value.bool false)),C.d (D.v (Value.int IntKind.u8 0)),C.nil,C.nil,C.d (D.v (Value.int IntKind.u8 0)),C.d (D.v (Value.bool false)),C.d (D.v (Value.bool false)),C.nil,C.d (D.v (Value.bool false)),C.d (D.v (Value.bool false)),C.nil,C.d (D.v (Value.bool false)),C.d (D.v (Value.int IntKind.i64 0)),C.d (D.v (Value.bool false)),C.d (D.v (Value.int IntKind.i64 0))]:=by kernel_rfl
@[go_sem] theorem ty54_f0:fldOf Tryz.prog 54 0=(0,28):=by kernel_rfl
@[go_sem] theorem ty54_i0:isFld Tryz.prog 54 0=true:=by kernel_rfl
@[go_sem] theorem ty54_f1:fldOf Tryz.prog 54 1=(6,4):=by kernel_rfl
@[go_sem] theorem ty54_i1:isFld Tryz.prog 54 1=true:=by kernel_rfl
@[go_sem] theorem ty54_f2:fldOf Tryz.prog 54 2=(7,35):=by kernel_rfl
@[go_sem] theorem ty54_i2:isFld Tryz.prog 54 2=true:=by kernel_rfl
@[go_sem] theorem ty54_f3:fldOf Tryz.prog 54 3=(17,37):=by kernel_rfl
@[go_sem] theorem ty54_i3:isFld Tryz.prog 54 3=true:=by kernel_rfl
@[go_sem] theorem ty119_z:zeroOf Tryz.prog 119=[C.d (D.v (Value.int IntKind.i64 0)),C.d (D.v (Value.int IntKind.i64 0))]:=by kernel_rfl
@[go_sem] theorem ty119_f0:fldOf Tryz.prog 119 0=(0,3):=by kernel_rfl
@[go_sem] theorem ty119_i0:isFld Tryz.prog 119 0=true:=by kernel_rfl
@[go_sem] theorem ty119_f1:fldOf Tryz.prog 119 1=(1,3):=by kernel_rfl
@[go_sem] theorem ty119_i1:isFld Tryz.prog 119 1=true:=by kernel_rfl
@[go_sem] theorem ty119_b:bldOk Tryz.prog 119=true:=by kernel_rfl
@[go_sem] theorem ty146_kd:kdOf Tryz.prog 146=Kd.sl 9:=by kernel_rfl
@[go_sem] theorem ty148_kd:kdOf Tryz.prog 148=Kd.fn:=by kernel_rfl
@[go_sem] theorem ty148_ok:tyok Tryz.prog 148=true:=by kernel_rfl
@[go_sem] theorem ty155_kd:kdOf Tryz.prog 155=Kd.sl 24:=by kernel_rfl
@[go_sem] theorem ty164_kd:kdOf Tryz.prog 164=Kd.arr 6 9:=by kernel_rfl
@[go_sem] theorem ty164_sz:szOf Tryz.prog 164=6:=by kernel_rfl
@[go_sem] theorem ty164_ok:tyok Tryz.prog 164=true:=by kernel_rfl
@[go_sem] theorem ty164_z:zeroOf Tryz.prog 164=[C.d (D.v (Value.string { data:= #[] })),C.d (D.v (Value.string { data:= #[] })),C.d (D.v (Value.string { data:= #[] })),C.d (D.v (Value.string { data:= #[] })),C.d (D.v (Value.string { data:= #[] })),C.d (D.v (Value.string { data:= #[] }))]:=by kernel_rfl
@[go_sem] theorem ty164_b:bldOk Tryz.prog 164=true:=by kernel_rfl
@[go_sem] theorem ty188_kd:kdOf Tryz.prog 188=Kd.fn:=by kernel_rfl
@[go_sem] theorem ty188_ok:tyok Tryz.prog 188=true:=by kernel_rfl
@[go_sem] theorem ty210_kd:kdOf Tryz.prog 210=Kd.sl 3:=by kernel_rfl
@[go_sem] theorem ty213_kd:kdOf Tryz.prog 213=Kd.fn:=by kernel_rfl
@[go_sem] theorem fn16_ok:funcOk Tryz.prog 16=true:=by kernel_rfl
@[go_sem] theorem fn17_ok:funcOk Tryz.prog 17=true:=by kernel_rfl
@[go_sem] theorem fn18_ok:funcOk Tryz.prog 18=true:=by kernel_rfl
@[go_sem] theorem fn22_ok:funcOk Tryz.prog 22=true:=by kernel_rfl
@[go_sem] theorem fn25_ok:funcOk Tryz.prog 25=true:=by kernel_rfl
@[go_sem] theorem fn35_ok:funcOk Tryz.prog 35=true:=by kernel_rfl
@[go_sem] theorem fn36_ok:funcOk Tryz.prog 36=true:=by kernel_rfl
@[go_sem] theorem fn37_ok:funcOk Tryz.prog 37=true:=by kernel_rfl
@[go_sem] theorem fn39_ok:funcOk Tryz.prog 39=true:=by kernel_rfl
@[go_sem] theorem fn46_ok:funcOk Tryz.prog 46=true:=by kernel_rfl
@[go_sem] theorem fn51_ok:funcOk Tryz.prog 51=true:=by kernel_rfl
@[go_sem] theorem fn52_ok:funcOk Tryz.prog 52=true:=by kernel_rfl
@[go_sem] theorem fn53_ok:funcOk Tryz.prog 53=true:=by kernel_rfl
@[go_sem] theorem fn57_ok:funcOk Tryz.prog 57=true:=by kernel_rfl
@[go_sem] theorem fn58_ok:funcOk Tryz.prog 58=true:=by kernel_rfl
@[go_sem] theorem fn75_ok:funcOk Tryz.prog 75=true:=by kernel_rfl
@[go_sem] theorem fn76_ok:funcOk Tryz.prog 76=true:=by kernel_rfl
@[go_sem] theorem fn77_ok:funcOk Tryz.prog 77=true:=by kernel_rfl
@[go_sem] theorem fn80_ok:funcOk Tryz.prog 80=true:=by kernel_rfl
@[go_sem] theorem fn84_ok:funcOk Tryz.prog 84=true:=by kernel_rfl
@[go_sem] theorem fn87_ok:funcOk Tryz.prog 87=true:=by kernel_rfl
@[go_sem] theorem fn88_ok:funcOk Tryz.prog 88=true:=by kernel_rfl
@[go_sem] theorem fn94_ok:funcOk Tryz.prog 94=true:=by kernel_rfl
@[go_sem] theorem fn95_ok:funcOk Tryz.prog 95=true:=by kernel_rfl
@[go_sem] theorem fn96_ok:funcOk Tryz.prog 96=true:=by kernel_rfl
@[go_sem] theorem fn98_ok:funcOk Tryz.prog 98=true:=by kernel_rfl
@[go_sem] theorem fn99_ok:funcOk Tryz.prog 99=true:=by kernel_rfl
@[go_sem] theorem fn100_ok:funcOk Tryz.prog 100=true:=by kernel_rfl
@[go_sem] theorem fn101_ok:funcOk Tryz.prog 101=true:=by kernel_rfl
@[go_sem] theorem fn103_ok:funcOk Tryz.prog 103=true:=by kernel_rfl
@[go_sem] theorem fn104_ok:funcOk Tryz.prog 104=true:=by kernel_rfl
@[go_sem] theorem fn109_ok:funcOk Tryz.prog 109=true:=by kernel_rfl
@[go_sem] theorem fn111_ok:funcOk Tryz.prog 111=true:=by kernel_rfl
@[go_sem] theorem fn112_ok:funcOk Tryz.prog 112=true:=by kernel_rfl
@[go_sem] theorem fn113_ok:funcOk Tryz.prog 113=true:=by kernel_rfl
@[go_sem] theorem fn114_ok:funcOk Tryz.prog 114=true:=by kernel_rfl
@[go_sem] theorem fn115_ok:funcOk Tryz.prog 115=true:=by kernel_rfl
@[go_sem] theorem fn116_ok:funcOk Tryz.prog 116=true:=by kernel_rfl
@[go_sem] theorem fn118_ok:funcOk Tryz.prog 118=true:=by kernel_rfl
@[go_sem] theorem fn119_ok:funcOk Tryz.prog 119=true:=by kernel_rfl
@[go_sem] theorem fn120_ok:funcOk Tryz.prog 120=true:=by kernel_rfl
@[go_sem] theorem fn121_ok:funcOk Tryz.prog 121=true:=by kernel_rfl
@[go_sem] theorem fn123_ok:funcOk Tryz.prog 123=true:=by kernel_rfl
@[go_sem] theorem fn124_ok:funcOk Tryz.prog 124=true:=by kernel_rfl
@[go_sem] theorem fn128_ok:funcOk Tryz.prog 128=true:=by kernel_rfl
@[go_sem] theorem fn129_ok:funcOk Tryz.prog 129=true:=by kernel_rfl
@[go_sem] theorem fn130_ok:funcOk Tryz.prog 130=true:=by kernel_rfl
@[go_sem] theorem fn131_ok:funcOk Tryz.prog 131=true:=by kernel_rfl
@[go_sem] theorem fn132_ok:funcOk Tryz.prog 132=true:=by kernel_rfl
@[go_sem] theorem fn134_ok:funcOk Tryz.prog 134=true:=by kernel_rfl
@[go_sem] theorem fn135_ok:funcOk Tryz.prog 135=true:=by kernel_rfl
@[go_sem] theorem fn136_ok:funcOk Tryz.prog 136=true:=by kernel_rfl
@[go_sem] theorem fn137_ok:funcOk Tryz.prog 137=true:=by kernel_rfl
@[go_sem] theorem fn138_ok:funcOk Tryz.prog 138=true:=by kernel_rfl
@[go_sem] theorem fn139_ok:funcOk Tryz.prog 139=true:=by kernel_rfl
@[go_sem] theorem fn140_ok:funcOk Tryz.prog 140=true:=by kernel_rfl
@[go_sem] theorem fn141_ok:funcOk Tryz.prog 141=true:=by kernel_rfl
@[go_sem] theorem fn142_ok:funcOk Tryz.prog 142=true:=by kernel_rfl
@[go_sem] theorem fn143_ok:funcOk Tryz.prog 143=true:=by kernel_rfl
@[go_sem] theorem fn144_ok:funcOk Tryz.prog 144=true:=by kernel_rfl
@[go_sem] theorem fn145_ok:funcOk Tryz.prog 145=true:=by kernel_rfl
@[go_sem] theorem fn146_ok:funcOk Tryz.prog 146=true:=by kernel_rfl
@[go_sem] theorem fn147_ok:funcOk Tryz.prog 147=true:=by kernel_rfl
@[go_sem] theorem fn151_ok:funcOk Tryz.prog 151=true:=by kernel_rfl
@[go_sem] theorem fn152_ok:funcOk Tryz.prog 152=true:=by kernel_rfl
@[go_sem] theorem fn153_ok:funcOk Tryz.prog 153=true:=by kernel_rfl
@[go_sem] theorem fn154_ok:funcOk Tryz.prog 154=true:=by kernel_rfl
@[go_sem] theorem fn156_ok:funcOk Tryz.prog 156=true:=by kernel_rfl
@[go_sem] theorem fn164_ok:funcOk Tryz.prog 164=true:=by kernel_rfl
@[go_sem] theorem fn165_ok:funcOk Tryz.prog 165=true:=by kernel_rfl
@[go_sem] theorem fn167_ok:funcOk Tryz.prog 167=true:=by kernel_rfl
@[go_sem] theorem fn168_ok:funcOk Tryz.prog 168=true:=by kernel_rfl
@[go_sem] theorem fn173_ok:funcOk Tryz.prog 173=true:=by kernel_rfl
@[go_sem] theorem fn174_ok:funcOk Tryz.prog 174=true:=by kernel_rfl
@[go_sem] theorem fn179_ok:funcOk Tryz.prog 179=true:=by kernel_rfl
@[go_sem] theorem fn180_ok:funcOk Tryz.prog 180=true:=by kernel_rfl
@[go_sem] theorem fn181_ok:funcOk Tryz.prog 181=true:=by kernel_rfl
@[go_sem] theorem fn182_ok:funcOk Tryz.prog 182=true:=by kernel_rfl
@[go_sem] theorem fn185_ok:funcOk Tryz.prog 185=true:=by kernel_rfl
@[go_sem] theorem fn186_ok:funcOk Tryz.prog 186=true:=by kernel_rfl
@[go_sem] theorem fn193_ok:funcOk Tryz.prog 193=true:=by kernel_rfl
@[go_sem] theorem fn195_ok:funcOk Tryz.prog 195=true:=by kernel_rfl
@[go_sem] theorem fn197_ok:funcOk Tryz.prog 197=true:=by kernel_rfl
@[go_sem] theorem fn203_ok:funcOk Tryz.prog 203=true:=by kernel_rfl
@[go_sem] theorem fn205_ok:funcOk Tryz.prog 205=true:=by kernel_rfl
@[go_sem] theorem fn206_ok:funcOk Tryz.prog 206=true:=by kernel_rfl
@[go_sem] theorem fn207_ok:funcOk Tryz.prog 207=true:=by kernel_rfl
@[go_sem] theorem fn208_ok:funcOk Tryz.prog 208=true:=by kernel_rfl
@[go_sem] theorem fn209_ok:funcOk Tryz.prog 209=true:=by kernel_rfl
@[go_sem] theorem fn210_ok:funcOk Tryz.prog 210=true:=by kernel_rfl
@[go_sem] theorem fn211_ok:funcOk Tryz.prog 211=true:=by kernel_rfl
@[go_sem] theorem fn213_ok:funcOk Tryz.prog 213=true:=by kernel_rfl
@[go_sem] theorem fn214_ok:funcOk Tryz.prog 214=true:=by kernel_rfl
@[go_sem] theorem fn215_ok:funcOk Tryz.prog 215=true:=by kernel_rfl
@[go_sem] theorem fn216_ok:funcOk Tryz.prog 216=true:=by kernel_rfl
@[go_sem] theorem fn217_ok:funcOk Tryz.prog 217=true:=by kernel_rfl
@[go_sem] theorem fn221_ok:funcOk Tryz.prog 221=true:=by kernel_rfl
@[go_sem] theorem fn223_ok:funcOk Tryz.prog 223=true:=by kernel_rfl
@[go_sem] theorem fn224_ok:funcOk Tryz.prog 224=true:=by kernel_rfl
@[go_sem] theorem fn226_ok:funcOk Tryz.prog 226=true:=by kernel_rfl
@[go_sem] theorem fn227_ok:funcOk Tryz.prog 227=true:=by kernel_rfl
@[go_sem] theorem fn231_ok:funcOk Tryz.prog 231=true:=by kernel_rfl
@[go_sem] theorem fn232_ok:funcOk Tryz.prog 232=true:=by kernel_rfl
end Go.Proofs.YtfammdfpgccnfaaGreatDoor
namespace Go.Proofs.YtfammdfpgccnfaaGreatDoor
open Go.RowKit
section
variable {G:Nat→Option (List D)} {P:Program} {K:Ctx G} {F:Fr} {Q:Exit→FSt→Prop} {s:FSt} {m:NM} {a:Act} {w:World}
def NM.via (m:NM) (ρ:Nat→Nat):NM:=⟨fun r=>m.g (ρ r),fun r=>m.N (ρ r),fun r=>m.vd (ρ r)⟩
theorem RC.via {S:Nat→Prop} {dom dom':Nat→Prop} {ρ:Nat→Nat} {x:C} {u:Value} (h:RC w S m dom (x.ren ρ) u) (hn: ∀ r∈x.names,dom' r):RC w S (m.via ρ) dom' x u:=by
 cases x with
 | d x=>exact h
 | nil=>exact h
 | ptr r off=>exact ⟨hn r (by simp [C.names]),h.2⟩
 | row r sz off n cap=>exact ⟨hn r (by simp [C.names]),h.2⟩
 | fn f caps =>
  refine ⟨?_,fun p hp=>⟨hn _ (by simp only [C.names];exact List.mem_map_of_mem hp),(h.2 (ρ p.1,p.2) (List.mem_map_of_mem (f:=fun p:Nat × Nat=>(ρ p.1,p.2)) hp)).2⟩⟩
  rw [h.1]
  simp [NM.via,Function.comp_def]
theorem RA.via {S:Nat→Prop} {dom dom':Nat→Prop} {ρ:Nat→Nat} {x:AV} {u:Value} (h:RA w S m dom (x.ren ρ) u) (hn: ∀ r∈x.names,dom' r):RA w S (m.via ρ) dom' x u:=by
 cases x with
 | c x=>exact RC.via h hn
 | agg cs =>
  obtain ⟨us,e,hl,h⟩:=h
  refine ⟨us,e,by simpa using hl,fun i x v hx hv=>RC.via (h i (x.ren ρ) v ?_ hv) fun r hr=>hn r (by simp only [AV.names];exact List.mem_flatMap.2 ⟨x,List.mem_of_getElem? hx,hr⟩)⟩
  simp [hx]
theorem RS.via {S:Nat→Prop} {dom dom':Nat→Prop} {ρ:Nat→Nat} {x:SV} {u:Value} (h:RS w S m dom (x.ren ρ) u) (hn: ∀ r∈x.names,dom' r):RS w S (m.via ρ) dom' x u:=by
 cases x with
 | bot=>trivial
 | undef=>exact h
 | a x=>exact RA.via h hn
 | tup l =>
  obtain ⟨us,e,hl,h⟩:=h
  refine ⟨us,e,by simpa using hl,fun i x v hx hv=>RA.via (h i (x.ren ρ) v ?_ hv) fun r hr=>hn r (by simp only [SV.names];exact List.mem_flatMap.2 ⟨x,List.mem_of_getElem? hx,hr⟩)⟩
  simp [hx]
def objRen (ρ:Nat→Nat) (o:Option AObj):Option AObj:=o.map fun o=>⟨o.ty,o.cs.map (C.ren ρ),o.ex,o.fr⟩
structure LessR (ρ:Nat→Nat) (S:LSt) (s:FSt) (d0:Nat→Prop):Prop where
 sl: ∀ p∈S.sl,s.sl p.1=p.2.ren ρ
 ob: ∀ p∈S.ob,s.ob (ρ p.1)=some (objRen ρ p.2)
 inj:(S.ob.map fun p=>ρ p.1).Nodup
 sn: ∀ p∈S.sl,∀ r∈p.2.names,lkO S.ob r≠none
 on: ∀ p∈S.ob,∀ r∈objNames p.2,lkO S.ob r≠none
 d0: ∀ r,d0 r→lkO S.ob r≠none∧ρ r=r
theorem nodup_map_inj {α β:Type} {f:α→β}: ∀ {l:List α},(l.map f).Nodup→ ∀ x∈l,∀ y∈l,f x=f y→x=y
 | [],_,_,hx,_,_=>by cases hx
 | z::l,h,x,hx,y,hy=>by
  rw [List.map_cons,List.nodup_cons] at h
  intro e
  rcases List.mem_cons.1 hx with rfl|hx'<;>rcases List.mem_cons.1 hy with rfl|hy'
  ·rfl
  ·exact absurd (e▸List.mem_map_of_mem hy') h.1
  ·exact absurd (e▸List.mem_map_of_mem hx') h.1
  ·exact nodup_map_inj h.2 x hx' y hy' e
theorem Rel.lessR {ρ:Nat→Nat} {S:LSt} (h:Rel K F m s a w) (l:LessR ρ S s F.d0):Rel K F (m.via ρ) S.st a w:=by
 have hob: ∀ r o,lkO S.ob r=some o→s.ob (ρ r)=some (objRen ρ o):=fun r o ho=>l.ob _ (lkO_mem ho)
 have how: ∀ r,S.st.ob.own r→s.ob.own (ρ r):=fun r ⟨o,h1,h2⟩=>⟨_,hob _ _ h1,h2⟩
 have hv: ∀ b,Vis K m s.ob w b→Vis K (m.via ρ) S.st.ob w b:=fun b hb=>⟨hb.1,hb.2.1,fun r hr=>hb.2.2 _ (how r hr)⟩
 have hin: ∀ r r',S.st.ob.own r→S.st.ob.own r'→ρ r=ρ r'→r=r':=fun r r' ⟨o,h1,_⟩ ⟨o',h1',_⟩ e=>by
  have:=nodup_map_inj l.inj _ (lkO_mem h1) _ (lkO_mem h1') e
  injection this
 refine ⟨h.size,h.defers,fun t=>?_,⟨fun r o ho=>?_,fun r r' hr hr' hvr hvr' e=>hin r r' hr hr' (h.heap.dist _ _ (how r hr) (how r' hr') hvr hvr' e),fun r hr hvr=>h.heap.loc _ (how r hr) hvr,
  fun r o ho hf hvd=>hv _ (h.heap.fz _ _ (hob _ _ ho) hf hvd),h.heap.ev,fun g cs hg=>(h.heap.glob g cs hg).mono hv (fun _ _=>rfl)⟩,fun r hr=>⟨(l.d0 r hr).1,?_⟩⟩
 ·rcases lkS_mem (l:=S.sl) (t:=t) with e|e
  ·show RS w _ _ _ (lkS S.sl t) _
   rw [e]
   trivial
  ·have h1:=h.slot t
   rw [l.sl _ e] at h1
   exact (Keep.more hv).rs (RS.via h1 (l.sn _ e))
 ·have h0:=lkO_mem ho
  refine ⟨?_⟩
  rcases (h.heap.obj _ _ (hob _ _ ho)).row with ⟨h1,h2,h3⟩|⟨hvd,arr,h1,h2,h3,h4,h5⟩
  ·exact .inl ⟨h1,by simpa using h2,h3⟩
  ·refine .inr ⟨hvd,arr,h1,h2,fun he=>by simpa using h3 he,by simpa using h4,fun i x hx=>?_⟩
   obtain ⟨u,hu,hr⟩:=h5 i (x.ren ρ) (by simp [hx])
   exact ⟨u,hu,(Keep.more hv).rc (RC.via hr fun r hr=>l.on _ h0 r (by simp only [objNames];exact List.mem_flatMap.2 ⟨x,List.mem_of_getElem? hx,hr⟩))⟩
 ·have h1:=(h.names r hr).2
  have h2:=(l.d0 r hr).2
  exact ⟨by show m.g (ρ r)=_;rw [h2];exact h1.1,by show m.N (ρ r)=_;rw [h2];exact h1.2.1,by show m.vd (ρ r)=_;rw [h2];exact h1.2.2⟩
def renK:List (Nat × Nat)→Nat→Nat
 | [],r=>r
 | (a,b)::l,r=>if r=a then b else renK l r
def eqS (ρ:Nat→Nat) (f:Nat→SV):List (Nat × SV)→Prop
 | []=>True
 | (k,v)::l=>f k=v.ren ρ∧eqS ρ f l
def eqO (ρ:Nat→Nat) (H:Hp):List (Nat × Option AObj)→Prop
 | []=>True
 | (k,v)::l=>H (ρ k)=some (objRen ρ v)∧eqO ρ H l
def nmR (ob:List (Nat × Option AObj)) (r:Nat):Bool:=(lkO ob r).isSome
def nmC (ob:List (Nat × Option AObj)) (x:C):Prop:= ∀ r∈x.names,nmR ob r=true
def nmL (ob:List (Nat × Option AObj)) (l:List C):Prop:= ∀ x∈l,nmC ob x
def nmA (ob:List (Nat × Option AObj)):AV→Prop
 | .c x=>nmC ob x
 | .agg l=>nmL ob l
def nmT (ob:List (Nat × Option AObj)):List AV→Prop
 | []=>True
 | x::l=>nmA ob x∧nmT ob l
def nmS (ob:List (Nat × Option AObj)):List (Nat × SV)→Prop
 | []=>True
 | (_,.a x)::l=>nmA ob x∧nmS ob l
 | (_,.tup x)::l=>nmT ob x∧nmS ob l
 | (_,_)::l=>nmS ob l
def nmO (ob:List (Nat × Option AObj)):List (Nat × Option AObj)→Prop
 | []=>True
 | (_,some o)::l=>nmL ob o.cs∧nmO ob l
 | (_,none)::l=>nmO ob l
theorem nmR_ne {ob:List (Nat × Option AObj)} {r:Nat} (h:nmR ob r=true):lkO ob r≠none:=by
 intro e
 rw [nmR,e] at h
 cases h
theorem nmA_ok {ob:List (Nat × Option AObj)}: ∀ {x:AV},nmA ob x→ ∀ r∈x.names,lkO ob r≠none
 | .c x,h=>fun r hr=>nmR_ne (h r hr)
 | .agg l,h=>fun r hr=>by
  obtain ⟨x,hx,hr⟩:=List.mem_flatMap.1 hr
  exact nmR_ne (h x hx r hr)
theorem nmT_ok {ob:List (Nat × Option AObj)}: ∀ {l:List AV},nmT ob l→ ∀ r∈l.flatMap AV.names,lkO ob r≠none
 | [],h=>fun r hr=>by cases hr
 | x::l,h=>fun r hr=>by
  rw [List.flatMap_cons] at hr
  exact (List.mem_append.1 hr).elim (nmA_ok h.1 r) (nmT_ok h.2 r)
theorem nmS_ok {ob:List (Nat × Option AObj)}: ∀ {l:List (Nat × SV)},nmS ob l→ ∀ p∈l,∀ r∈p.2.names,lkO ob r≠none
 | [],_,_,hp=>by cases hp
 | (k,v)::l,h,p,hp=>by
  rcases List.mem_cons.1 hp with rfl|hp'
  ·cases v with
   | bot=>intro r hr;cases hr
   | undef=>intro r hr;cases hr
   | a x=>exact nmA_ok h.1
   | tup x=>exact nmT_ok h.1
  ·cases v with
   | bot=>exact nmS_ok (l:=l) h p hp'
   | undef=>exact nmS_ok (l:=l) h p hp'
   | a x=>exact nmS_ok h.2 p hp'
   | tup x=>exact nmS_ok h.2 p hp'
theorem nmO_ok {ob:List (Nat × Option AObj)}: ∀ {l:List (Nat × Option AObj)},nmO ob l→ ∀ p∈l,∀ r∈objNames p.2,lkO ob r≠none
 | [],_,_,hp=>by cases hp
 | (k, v) :: l, h, p,hp=>by
  rcases List.mem_cons.1 hp with rfl|hp'
  ·cases v with
   | none=>intro r hr;cases hr
   | some o=>exact fun r hr=>by
                 obtain ⟨x,hx,hr⟩:=List.mem_flatMap.1 hr
                 exact nmR_ne (h.1 x hx r hr)
  ·cases v with
   | none=>exact nmO_ok (l:=l) h p hp'
   | some o=>exact nmO_ok h.2 p hp'
def d0Ok (ρ:Nat→Nat) (F:Fr) (ob:List (Nat × Option AObj)):Prop:= ∀ r,F.d0 r→nmR ob r=true∧ρ r=r
def LessL (ρ:Nat→Nat) (S:LSt) (F:Fr) (s:FSt):Prop:=
 eqS ρ s.sl S.sl∧eqO ρ s.ob S.ob∧(S.ob.map fun p=>ρ p.1).Nodup∧nmS S.ob S.sl∧nmO S.ob S.ob∧d0Ok ρ F S.ob
theorem eqS_ok {ρ:Nat→Nat} {f:Nat→SV}: ∀ {l:List (Nat × SV)},eqS ρ f l→ ∀ p∈l,f p.1=p.2.ren ρ
 | [],_,_,hp=>by cases hp
 | (k,v)::l,h,p,hp=>by
  rcases List.mem_cons.1 hp with rfl|hp
  ·exact h.1
  ·exact eqS_ok h.2 p hp
theorem eqO_ok {ρ:Nat→Nat} {H:Hp}: ∀ {l:List (Nat × Option AObj)},eqO ρ H l→ ∀ p∈l,H (ρ p.1)=some (objRen ρ p.2)
 | [],_,_,hp=>by cases hp
 | (k,v)::l,h,p,hp=>by
  rcases List.mem_cons.1 hp with rfl|hp
  ·exact h.1
  ·exact eqO_ok h.2 p hp
theorem lessL_ok {ρ:Nat→Nat} {S:LSt} (h:LessL ρ S F s):LessR ρ S s F.d0:=
 ⟨eqS_ok h.1,eqO_ok h.2.1,h.2.2.1,nmS_ok h.2.2.2.1,nmO_ok h.2.2.2.2.1,fun r hr=>⟨nmR_ne (h.2.2.2.2.2 r hr).1,(h.2.2.2.2.2 r hr).2⟩⟩
theorem sound_lessR {c:Code} (S:LSt) (l:List (Nat × Nat)) (hl:LessL (renK l) S F s) (h:Sound P K F c Q S.st):Sound P K F c Q s:=fun m a w hr=>h _ a w (hr.lessR (lessL_ok hl))
theorem sound_loopR {c:Code} {X:Type} (S:X→LSt) (μ:X→Nat) (x0:X) (l:List (Nat × Nat)) (h0:LessL (renK l) (S x0) F s)
  (h: ∀ x,Sound P K F c (Then (fun s'=> ∃ l x',LessL (renK l) (S x') F s'∧μ x'<μ x) Q) (S x).st):Sound P K F (.loop c) Q s:=fun m a w hr=>by
 refine wp_loop_relR x0 (hr.lessR (lessL_ok h0)) h
where
 wp_loop_relR {c:Code} {X:Type} {S:X→LSt} {μ:X→Nat} {m:NM} {a:Act} {w:World} (x0:X) (h0:Rel K F m (S x0).st a w)
   (h: ∀ x,Sound P K F c (Then (fun s'=> ∃ l x',LessL (renK l) (S x') F s'∧μ x'<μ x) Q) (S x).st):(Code.loop c).wp P (Lift K F Q) a w:=by
  intro b k cs
  have key: ∀ n x m a w, μ x=n→Rel K F m (S x).st a w→ ∃ e a' w',Lift K F Q e a' w'∧Arrives P (lone (b.at a (.code c:: .inLoop c::k)) cs w) b k cs e a' w':=by
   intro n
   induction n using Nat.strongRecOn with
   | _ n ih =>
    intro x m a w hn hr
    obtain ⟨e,a₁,w₁,⟨m₁,s₁,hr₁,hq⟩,harr⟩:=h x m a w hr b (.inLoop c::k) cs
    cases e with
    | normal =>
     obtain ⟨l,x',hl,hlt⟩:=hq
     obtain ⟨e₂,a₂,w₂,hq₂,harr₂⟩:=ih (μ x') (hn▸hlt) x' _ a₁ w₁ rfl (hr₁.lessR (lessL_ok hl))
     exact ⟨e₂,a₂,w₂,hq₂,.of_steps (Steps.trans harr (.one step_inLoop)) harr₂⟩
    | exit id=>exact ⟨_,a₁,w₁,⟨m₁,s₁,hr₁,hq⟩,.pass (x:= .inLoop c) rfl (fun _ _=> .inl (by simp)) harr⟩
    | goto l=>exact ⟨_,a₁,w₁,⟨m₁,s₁,hr₁,hq⟩,.pass (x:= .inLoop c) rfl (fun _ _=> .inl (by simp)) harr⟩
    | ret=>exact ⟨_,a₁,w₁,⟨m₁,s₁,hr₁,hq⟩,.pass (x:= .inLoop c) rfl (fun _ _=> .inl (by simp)) harr⟩
    | panic ch=>exact ⟨_,a₁,w₁,⟨m₁,s₁,hr₁,hq⟩,.pass (x:= .inLoop c) rfl (fun _ _=> .inl (by simp)) harr⟩
    | outgrown=>exact ⟨_,a₁,w₁,⟨m₁,s₁,hr₁,hq⟩,.pass (x:= .inLoop c) rfl (fun _ _=> .inl (by simp)) harr⟩
  obtain ⟨e,a',w',hq,harr⟩:=key _ x0 m a w rfl h0
  exact ⟨e,a',w',hq,.of_steps (.one step_loop) harr⟩
theorem Rel.reslot {t:Nat} {v:SV} (h:Rel K F m s a w) (hv:RS w (Vis K m s.ob w) m s.ob.dom v (a.tmps.getD t undef)):Rel K F m ⟨upd s.sl t v,s.ob⟩ a w:=
 ⟨h.size,h.defers,fun t'=>by
  show RS w _ _ _ (upd s.sl t v t') _
  unfold upd
  split
  ·rename_i e
   rw [e]
   exact hv
  ·exact h.slot t',h.heap,h.names⟩
def voidO (e:TypeId):Option (Option AObj):=some (some ⟨e,[],false,false⟩)
theorem Rel.void {R:Nat} {e:TypeId} (h:Rel K F m s a w) (hf:s.ob R=none):Rel K F (m.set R 0 0 true) ⟨s.sl,upd s.ob R (voidO e)⟩ a w:=by
 have hne: ∀ r,s.ob.dom r→r≠R:=fun r hr e=>hr (by rw [e];exact hf)
 have t:Turn K m (m.set R 0 0 true) s.ob (upd s.ob R (voidO e)) w w (fun r=>r=R):=by
  refine ⟨fun r hr=>upd_ne hr,fun r hr=>?_,fun r hr=>(NM.set_other (hne r hr)).1,fun r hr=>(NM.set_other (hne r hr)).2.1,fun r hr=>(NM.set_other (hne r hr)).2.2,Ev.refl _ _,
   fun r hr _ hv=>?_,fun r r' hr hr' _ _ _ _ _=>hr.trans hr'.symm⟩
  ·show upd s.ob R _ r≠none
   rw [upd_ne (hne r hr)]
   exact hr
  ·subst hr
   rw [NM.set_same.2.2] at hv
   cases hv
 have hh:HRel K (m.set R 0 0 true) (upd s.ob R (voidO e)) w:=t.rel h.heap (fun r o hr ho=>by
   subst hr
   rw [upd_same] at ho
   injection ho with ho
   injection ho with ho
   subst ho
   exact ⟨.inl ⟨NM.set_same.2.2,rfl,rfl⟩⟩) (fun r o hr ho hf _=>by
   subst hr
   rw [upd_same] at ho
   injection ho with ho
   injection ho with ho
   subst ho
   cases hf)
 exact h.turn (dst:=none) (v:= .bot) (u:=undef) t hh (fun d hd=>by cases hd) trivial
theorem rc_void {R sz:Nat} {dom:Nat→Prop} {S:Nat→Prop} (hd:dom R):RC w S (m.set R 0 0 true) dom (.row R sz 0 0 .grow) (.slice none 0 0):=
 ⟨hd,none,0,rfl,Nat.le_refl _,by omega,rfl,.inl ⟨NM.set_same.2.2,rfl,rfl,rfl⟩⟩
theorem sound_void {c:Code} (t R sz:Nat) (e:TypeId) (h1:s.sl t= .a (.c .nil)) (h2:s.ob R=none) (h:Sound P K F c Q ⟨upd s.sl t (.a (.c (.row R sz 0 0 .grow))),upd s.ob R (voidO e)⟩):Sound P K F c Q s:=fun m a w hr=>by
 have hv:=hr.slot t
 rw [h1] at hv
 have hv:a.tmps.getD t undef= .slice none 0 0:=hv
 refine h _ a w (Rel.reslot (hr.void h2) ?_)
 rw [hv]
 exact (show RC w (Vis K (m.set R 0 0 true) (upd s.ob R (voidO e)) w) (m.set R 0 0 true) (Hp.dom (upd s.ob R (voidO e))) (.row R sz 0 0 .grow) (.slice none 0 0) from rc_void (by simp [Hp.dom,upd,voidO]))
theorem sound_voidC {c:Code} (r i R sz:Nat) (e:TypeId) {o:AObj} (h1:s.ob r=some (some o)) (hi:o.cs[i]?=some .nil) (hfr:o.fr=false) (h2:s.ob R=none)
  (h:Sound P K F c Q ⟨s.sl,upd (upd s.ob r (some (some { o with cs:=o.cs.set i (.row R sz 0 0 .grow) }))) R (voidO e)⟩):Sound P K F c Q s:=fun m a w hr=>by
 have hrR:r≠R:=fun e=>by rw [e,h2] at h1;cases h1
 have h9:=hr.void (e:=e) h2
 have ho:(upd s.ob R (voidO e)) r=some (some o):=by rw [upd_ne hrR];exact h1
 have hi':=(List.getElem?_eq_some_iff.1 hi).1
 refine h (m.set R 0 0 true) a w ?_
 rw [upd_comm (Ne.symm hrR)]
 generalize hm:m.set R 0 0 true=m' at *
 generalize hH:upd s.ob R (voidO e)=H at *
 have hvd:m'.vd r=false:=by
  rcases (h9.heap.obj r o ho).row with ⟨_,hcs,_⟩|⟨hv,_⟩
  ·rw [hcs] at hi'
   cases hi'
  ·exact hv
 have t:Turn K m' m' H (upd H r (some (some { o with cs:=o.cs.set i (.row R sz 0 0 .grow) }))) w w (fun x=>x=r):=by
  refine ⟨fun r' hr'=>upd_ne hr',fun r' hr'=>?_,fun _ _=>rfl,fun _ _=>rfl,fun _ _=>rfl,Ev.refl _ _,fun r' hr' ⟨o',h1,h2⟩ hv'=> .inl ⟨r,rfl,⟨o,ho,hfr⟩,hvd,by rw [hr']⟩,fun r1 r2 hr hr' _ _ _ _ _=>hr.trans hr'.symm⟩
  show upd H r _ r'≠none
  unfold upd
  split
  ·simp
  ·exact hr'
 have hdR:Hp.dom (upd H r (some (some { o with cs:=o.cs.set i (.row R sz 0 0 .grow) }))) R:=by
  show upd H r _ R≠none
  rw [upd_ne (Ne.symm hrR),← hH,upd_same]
  simp [voidO]
 have k:=t.keep h9.heap
 have hh : HRel K m' (upd H r (some (some { o with cs:=o.cs.set i (.row R sz 0 0 .grow) }))) w:=t.rel h9.heap (fun r' o' hr' ho'=>by
   subst hr'
   rw [upd_same] at ho'
   injection ho' with ho'
   injection ho' with ho'
   subst ho'
   rcases (h9.heap.obj r' o ho).row with ⟨hv,_⟩|⟨hv,arr,g1,g2,g3,g4,g5⟩
   ·rw [hvd] at hv
    cases hv
   ·refine ⟨.inr ⟨hv,arr,g1,g2,fun he=>by simpa using g3 he,by simpa using g4,fun j x hx=>?_⟩⟩
    by_cases hj:i=j
    ·subst hj
     obtain ⟨u,hu,hrc⟩:=g5 i _ hi
     have hu':u= .slice none 0 0:=hrc
     subst hu'
     have hx:(o.cs.set i (.row R sz 0 0 .grow))[i]?=some x:=hx
     rw [List.getElem?_set_self hi'] at hx
     injection hx with hx
     subst hx
     refine ⟨_,hu,?_⟩
     rw [← hm]
     exact rc_void hdR
    ·have hx:(o.cs.set i (.row R sz 0 0 .grow))[j]?=some x:=hx
     rw [List.getElem?_set_ne hj] at hx
     obtain ⟨u,hu,hrc⟩:=g5 j x hx
     exact ⟨u,hu,k.rc hrc⟩) (fun r' o' hr' ho' hf _=>by
   subst hr'
   rw [upd_same] at ho'
   injection ho' with ho'
   injection ho' with ho'
   subst ho'
   rw [show o.fr=true from hf] at hfr
   cases hfr)
 exact h9.turn (dst:=none) (v:= .bot) (u:=undef) t hh (fun d hd=>by cases hd) trivial
end
@[go_sem] theorem ba_list {x:List UInt8}:ByteArray.toList ⟨x.toArray⟩=x:=by simp [ByteArray.toList_eq]
theorem zI {y:List UInt8} {p:List UInt8→Prop} (h:p y): ∃ x:List UInt8,(x.length=y.length∧y.map bD=x.map bD)∧p x:=⟨y,⟨rfl,rfl⟩,h⟩
theorem spec_empty {G:Nat→Option (List D)} {P:Program} {f:FuncId} {pre post:List DV} {out:DR} (hp:out.plain=true) (h: ∀ A c,Spec P G f (pre++ .c (.v (.slice A 0 c))::post) out):Spec P G f (pre++ .c (.sl 0 [])::post) out:=by
 refine .mk0 hp ?_
 intro w S vs hS hT hA
 obtain ⟨hl,hc⟩:=hA
 have hlt:pre.length<vs.length:=by rw [hl];simp
 obtain ⟨A,c,hu,_⟩:=rd_sl (w:=w) (S:=S) (cs:=[]) (n:=0) (u:=vs[pre.length]) (hc pre.length (.c (.sl 0 [])) _ (by simp) (List.getElem?_eq_getElem hlt))
 refine (h A c).get0 hp w S vs hS hT ⟨by rw [hl];simp,fun i x v hx hv=>?_⟩
 by_cases hi:i=pre.length
 ·subst hi
  rw [List.getElem?_append_right (Nat.le_refl _),Nat.sub_self] at hx
  have hx:some (DV.c (.v (.slice A 0 c)))=some x:=hx
  injection hx with hx
  subst hx
  rw [List.getElem?_eq_getElem hlt,hu] at hv
  injection hv with hv
  subst hv
  exact .v _ rfl
 ·refine hc i x v ?_ hv
  rw [List.getElem?_append] at hx ⊢
  split at hx
  ·rename_i h1
   rw [if_pos h1]
   exact hx
  ·rename_i h1
   rw [if_neg h1]
   obtain ⟨j,hj⟩: ∃ j,i-pre.length=j+1:=⟨i-pre.length-1,by omega⟩
   rw [hj] at hx ⊢
   exact hx
attribute [go_sem] renK eqS eqO nmA nmT nmS nmO objRen SV.ren AV.ren C.ren voidO
section
variable {ob:List (Nat × Option AObj)} {ρ:Nat→Nat}
@[go_sem] theorem nmC_d {x:D}:nmC ob (.d x)=True:=by simp [nmC,C.names]
@[go_sem] theorem nmC_nil:nmC ob .nil=True:=by simp [nmC,C.names]
@[go_sem] theorem nmC_ptr {r off:Nat}:nmC ob (.ptr r off)=(nmR ob r=true):=by simp [nmC,C.names]
@[go_sem] theorem nmC_row {r sz off n:Nat} {cap:Cap}:nmC ob (.row r sz off n cap)=(nmR ob r=true):=by simp [nmC,C.names]
@[go_sem] theorem nmL_nil:nmL ob []=True:=by simp [nmL]
@[go_sem] theorem nmL_cons {x:C} {l:List C}:nmL ob (x::l)=(nmC ob x∧nmL ob l):=by simp [nmL]
@[go_sem] theorem nmL_app {l k:List C}:nmL ob (l++k)=(nmL ob l∧nmL ob k):=by simp [nmL,or_imp,forall_and]
@[go_sem] theorem nmL_mapd {l:List D}:nmL ob (l.map C.d)=True:=by simp [nmL,nmC,C.names]
@[go_sem] theorem ren_mapd {l:List D}:(l.map C.d).map (C.ren ρ)=l.map C.d:=by simp [C.ren]
@[go_sem] theorem ren_app {l k:List C}:(l++k).map (C.ren ρ)=l.map (C.ren ρ)++k.map (C.ren ρ):=by simp
@[go_sem] theorem nmR_in {r:Nat}:nmR ob r=(lkO ob r).isSome:=rfl
@[go_sem] theorem d0Ok_0 {n:Nat}:d0Ok ρ (Fr0 n) ob=True:=eq_true fun r h=>h.elim
@[go_sem] theorem d0Ok_O {n:Nat} {m:NM} {l:List Nat}:d0Ok ρ (FrO n m l) ob=(l.all (fun r=>nmR ob r&&ρ r==r)=true):=by
 rw [List.all_eq_true]
 simp [d0Ok,FrO]
@[go_sem] theorem lessL_eq {F:Fr} {s:FSt} {S:LSt}:LessL ρ S F s=(eqS ρ s.sl S.sl∧eqO ρ s.ob S.ob∧(S.ob.map fun p=>ρ p.1).Nodup∧nmS S.ob S.sl∧nmO S.ob S.ob∧d0Ok ρ F S.ob):=rfl
end
@[go_sem] theorem dOnly_map {l:List D}:dOnly (l.map C.d)=some l:=by
 induction l with
 | nil=>rfl
 | cons x l ih=>simp [dOnly,dOf,ih]
@[go_sem] theorem dOnly_append {a b:List C}:dOnly (a++b)=(dOnly a).bind fun x=>(dOnly b).map (x++ ·):=by
 induction a with
 | nil=>cases h:dOnly b<;>simp [dOnly,h]
 | cons y a ih =>
  show dOnly (y::(a++b))=_
  simp only [dOnly,ih]
  cases dOf y<;>cases dOnly a<;>cases dOnly b<;>rfl
theorem flat_len {α:Type} {f:α→List D} {n:Nat} (hf: ∀ x,(f x).length=n): ∀ l:List α,(l.flatMap f).length=l.length*n
 | []=>by simp
 | x::l=>by rw [List.flatMap_cons,List.length_append,hf,flat_len hf l,List.length_cons,Nat.add_mul];omega
theorem flat_at {α:Type} {f:α→List D} {n:Nat} (hf: ∀ x,(f x).length=n): ∀ {l:List α} {k:Nat} {x:α},l[k]?=some x→((l.flatMap f).drop (k*n)).take n=f x
 | [],k,x,h=>by simp at h
 | y::l,0,x,h=>by
  have h:y=x:=by simpa using h
  subst h
  simp [List.flatMap_cons,List.take_append,hf]
 | y::l,k+1,x,h=>by
  have h:l[k]?=some x:=by simpa using h
  rw [List.flatMap_cons,List.drop_append,List.drop_of_length_le (by rw [hf,Nat.add_mul];omega),List.nil_append,hf,show (k+1)*n-n=k*n by rw [Nat.add_mul];omega]
  exact flat_at hf h
theorem wrap8 {x:Int} (h0:0≤x) (h1:x≤255):IntKind.u8.wrap x=x:=by
 rw [IntKind.wrap_u8]
 omega
theorem max_r {a b:Int} (h:b≤a):(if b>a then b else a)=a:=by
 rw [if_neg (by omega)]
theorem max_l {a b:Int} (h:a<b):(if b>a then b else a)=b:=by
 rw [if_pos (by omega)]
theorem min_r {a b:Int} (h:a≤b):(if b<a then b else a)=a:=by
 rw [if_neg (by omega)]
theorem min_l {a b:Int} (h:b<a):(if b<a then b else a)=b:=by
 rw [if_pos (by omega)]
theorem wq:(∀ x:Int, -9223372036854775808≤x→x≤9223372036854775807→IntKind.i64.wrap x=x)∧(∀ x:Int,0≤x→x≤255→IntKind.u8.wrap x=x)∧(∀ a b:Int,b≤a→(if b>a then b else a)=a)∧(∀ a b:Int,a<b→(if b>a then b else a)=b)∧(∀ a b:Int,a≤b→(if b<a then b else a)=a)∧(∀ a b:Int,b<a→(if b<a then b else a)=b):=
 ⟨fun _=>wrap_id,fun _=>wrap8,fun _ _=>max_r,fun _ _=>max_l,fun _ _=>min_r,fun _ _=>min_l⟩
theorem ijq:(∀ a b,(SV.a a=SV.a b)=(a=b))∧(∀ a b,(AV.c a=AV.c b)=(a=b))∧(∀ a b,(C.d a=C.d b)=(a=b))∧(∀ a b,(D.v a=D.v b)=(a=b))∧(∀ k a j b,(Value.int k a=Value.int j b)=(k=j∧a=b))∧(∀ a b,(DR.one a=DR.one b)=(a=b))∧(∀ a b,(DV.c a=DV.c b)=(a=b)):=
 ⟨SV.a.injEq,AV.c.injEq,C.d.injEq,D.v.injEq,Value.int.injEq,DR.one.injEq,DV.c.injEq⟩
theorem rep_one {c:C}:(List.replicate 1 [c]).flatten=[c]:=rfl
attribute [go_sem] bne List.replicate_zero List.flatten_nil rep_one List.size_toArray
@[go_sem] def vI (n:Int):SV:= .a (.c (.d (.v (.int .i64 n))))
@[go_sem] def vB (b:Bool):SV:= .a (.c (.d (.v (.bool b))))
@[go_sem] def vD (x:D):SV:= .a (.c (.d x))
@[go_sem] def vP (r off:Nat):SV:= .a (.c (.ptr r off))
@[go_sem] def vR (r sz n:Nat):SV:= .a (.c (.row r sz 0 n .grow))
attribute [go_sem] List.getElem?_toArray Option.bind_eq_bind
attribute [go_sem] List.nodup_nil List.nodup_cons List.mem_cons List.not_mem_nil Option.isSome_some Option.isSome_none
attribute [go_sem] ownArgs renN callO svOf rawOf initA someO List.find?_cons List.find?_nil List.contains_cons List.contains_nil Option.getD_some Option.getD_none
section
variable {G:Nat→Option (List D)} {P:Program} {K:Ctx G} {F:Fr} {Qx:Exit→FSt→Prop} {s:FSt} {m:NM} {a:Act} {w:World}
def AObj.trim (o:AObj) (k:Nat):AObj:={ o with cs:=o.cs.take k,ex:=false }
theorem Rel.trim {r k:Nat} {o:AObj} (h:Rel K F m s a w) (ho:s.ob r=some (some o)):Rel K F m ⟨s.sl,upd s.ob r (some (some (o.trim k)))⟩ a w:=by
 obtain ⟨H,hH⟩: ∃ H:Hp,upd s.ob r (some (some (o.trim k)))=H:=⟨_,rfl⟩
 rw [hH]
 have hr:H r=some (some (o.trim k)):=by rw [← hH,upd_same]
 have hne: ∀ x,x≠r→H x=s.ob x:=fun x hx=>by rw [← hH,upd_ne hx]
 have hdom: ∀ x,s.ob.dom x→H.dom x:=fun x hx=>by
  by_cases e:x=r
  ·subst e
   simp [Hp.dom,hr]
  ·simpa [Hp.dom,hne x e] using hx
 have hown: ∀ x,H.own x→s.ob.own x:=fun x ⟨o',h1,h2⟩=>by
  by_cases e:x=r
  ·subst e
   rw [hr] at h1
   injection h1 with h1
   injection h1 with h1
   subst h1
   exact ⟨o,ho,h2⟩
  ·rw [hne x e] at h1
   exact ⟨o',h1,h2⟩
 have hv: ∀ b,Vis K m s.ob w b→Vis K m H w b:=fun b hb=>⟨hb.1,hb.2.1,fun x hx=>hb.2.2 x (hown x hx)⟩
 have kp:Keep w w (Vis K m s.ob w) (Vis K m H w) m m s.ob.dom H.dom:=⟨hv,fun _ _=>rfl,hdom,fun _ _=>rfl,fun _ _=>rfl,fun _ _=>rfl⟩
 refine ⟨h.size,h.defers,fun t=>kp.rs (h.slot t),⟨fun x o' hx=>?_,fun x y hx hy=>h.heap.dist x y (hown x hx) (hown y hy),fun x hx=>h.heap.loc x (hown x hx),fun x o' hx hf hvd=>?_,h.heap.ev,fun g cs hg=>(h.heap.glob g cs hg).mono hv (fun _ _=>rfl)⟩,fun x hx=>⟨hdom x (h.names x hx).1,(h.names x hx).2⟩⟩
 ·by_cases e:x=r
  ·subst e
   have hx:H x=some (some o'):=hx
   rw [hr] at hx
   injection hx with hx
   injection hx with hx
   subst hx
   refine ⟨?_⟩
   rcases (h.heap.obj x o ho).row with ⟨h1,h2,h3⟩|⟨h1,arr,h2,h3,h4,h5,h6⟩
   ·exact .inl ⟨h1,by simp [AObj.trim,h2],rfl⟩
   ·refine .inr ⟨h1,arr,h2,h3,(fun e=>by cases e),by simp only [AObj.trim,List.length_take];omega,fun i y hy=>?_⟩
    simp only [AObj.trim,List.getElem?_take] at hy
    split at hy
    ·obtain ⟨u,hu,hc⟩:=h6 i y hy
     exact ⟨u,hu,kp.rc hc⟩
    ·cases hy
  ·have hx:H x=some (some o'):=hx
   rw [hne x e] at hx
   refine ⟨?_⟩
   rcases (h.heap.obj x o' hx).row with h1|⟨h1,arr,h2,h3,h4,h5,h6⟩
   ·exact .inl h1
   ·exact .inr ⟨h1,arr,h2,h3,h4,h5,fun i y hy=>by
     obtain ⟨u,hu,hc⟩:=h6 i y hy
     exact ⟨u,hu,kp.rc hc⟩⟩
 ·by_cases e:x=r
  ·subst e
   have hx:H x=some (some o'):=hx
   rw [hr] at hx
   injection hx with hx
   injection hx with hx
   subst hx
   exact hv _ (h.heap.fz x o ho hf hvd)
  ·have hx:H x=some (some o'):=hx
   rw [hne x e] at hx
   exact hv _ (h.heap.fz x o' hx hf hvd)
theorem sound_trim {c:Code} (r k:Nat) {o:AObj} (ho:s.ob r=some (some o)) (h:Sound P K F c Qx ⟨s.sl,upd s.ob r (some (some (o.trim k)))⟩):Sound P K F c Qx s:=fun m a w hr=>h m a w (hr.trim ho)
theorem sound_grow {c:Code} (t r sz n k:Nat) {o:AObj} (h1:s.sl t= .a (.c (.row r sz 0 n (.ex k)))) (h2:s.ob r=some (some o)) (h3:o.ex=true) (h4:o.cs.length=k*sz) (h:Sound P K F c Qx ⟨upd s.sl t (.a (.c (.row r sz 0 n .grow))),s.ob⟩):Sound P K F c Qx s:=fun m a w hr=>by
 have hv:=hr.slot t
 rw [h1] at hv
 obtain ⟨hdm,A,c',hu,hnc,hcm,hcap⟩:=rs_row hv
 obtain ⟨rfl,hA⟩:=hcap
 obtain ⟨hvd,hA⟩:=hA (.inr rfl)
 obtain ⟨arr,g1,g2,g3,g4,g5⟩:=hr.obj h2 hvd
 refine h m a w (hr.reslot ?_)
 exact ⟨hdm,A,c',hu,hnc,hcm,rfl,.inr ⟨hvd,hA,by rw [← g2,g3 h3,h4]⟩⟩
def LoopU (P:Program) {G:Nat→Option (List D)} (K:Ctx G) (F:Fr) (c:Code) (Q:Exit→FSt→Prop):Nat→FSt→Prop
 | 0,_=>False
 | n+1,s=>Sound P K F c (Then (LoopU P K F c Q n) Q) s
theorem zJ {c:Code} {n:Nat} (h:Sound P K F c (Then (LoopU P K F c Qx n) Qx) s):LoopU P K F c Qx (n+1) s:=h
instance {c:Code} {n:Nat}:Nx (LoopU P K F c Qx (n+1) s) (Sound P K F c (Then (LoopU P K F c Qx n) Qx) s):=⟨fun h=>h⟩
theorem sound_loopN {c:Code} (n:Nat) (h:LoopU P K F c Qx n s):Sound P K F (.loop c) Qx s:=fun m a w hr=>by
 intro b k cs
 have key: ∀ n s m a w,LoopU P K F c Qx n s→Rel K F m s a w→ ∃ e a' w',Lift K F Qx e a' w'∧Arrives P (lone (b.at a (.code c:: .inLoop c::k)) cs w) b k cs e a' w':=by
  intro n
  induction n with
  | zero=>exact fun _ _ _ _ h=>h.elim
  | succ n ih =>
   intro s m a w h hr
   obtain ⟨e,a₁,w₁,⟨m₁,s₁,hr₁,hq⟩,harr⟩:=h m a w hr b (.inLoop c::k) cs
   cases e with
   | normal =>
    obtain ⟨e₂,a₂,w₂,hq₂,harr₂⟩:=ih s₁ m₁ a₁ w₁ hq hr₁
    exact ⟨e₂,a₂,w₂,hq₂,.of_steps (Steps.trans harr (.one step_inLoop)) harr₂⟩
   | exit id=>exact ⟨_,a₁,w₁,⟨m₁,s₁,hr₁,hq⟩,.pass (x:= .inLoop c) rfl (fun _ _=> .inl (by simp)) harr⟩
   | goto l=>exact ⟨_,a₁,w₁,⟨m₁,s₁,hr₁,hq⟩,.pass (x:= .inLoop c) rfl (fun _ _=> .inl (by simp)) harr⟩
   | ret=>exact ⟨_,a₁,w₁,⟨m₁,s₁,hr₁,hq⟩,.pass (x:= .inLoop c) rfl (fun _ _=> .inl (by simp)) harr⟩
   | panic ch=>exact ⟨_,a₁,w₁,⟨m₁,s₁,hr₁,hq⟩,.pass (x:= .inLoop c) rfl (fun _ _=> .inl (by simp)) harr⟩
   | outgrown=>exact ⟨_,a₁,w₁,⟨m₁,s₁,hr₁,hq⟩,.pass (x:= .inLoop c) rfl (fun _ _=> .inl (by simp)) harr⟩
 obtain ⟨e,a',w',hq,harr⟩:=key n s m a w h hr
 exact ⟨e,a',w',hq,.of_steps (.one step_loop) harr⟩
variable {H:Hp} {rs:List Nat} {Kc:List Nat→Out→Prop} {t e:TypeId} {xs ys:List C}
theorem run_agg_neq {b:Bool} {L1 L2:List Lit} (h1:eqTy P t=true) (h2:KeyL P t xs L1) (h3:KeyL P t ys L2) (h4:b=true↔L1=L2) (h:Kc rs (.val (vB !b) [])):Q.run H rs Kc (aggQ P .neq t xs ys):=⟨(L1,L2),b,⟨h1,h2,h3,h4⟩,h⟩
end
section
variable {G:Nat→Option (List D)} {P:Program} {s:FSt} {rl:List ResultVar}
def obAt (H:Hp):List (Nat × Option AObj)→Prop
 | []=>True
 | (r,o)::l=>H r=some o∧obAt H l
theorem obAt_ok {H:Hp}: ∀ {l:List (Nat × Option AObj)},obAt H l→ ∀ p∈l,H p.1=some p.2
 | (r,o)::l,h,p,hp=>by
  rcases List.mem_cons.1 hp with rfl|hp
  ·exact h.1
  ·exact obAt_ok h.2 p hp
def rawQ (v:SV) (H':List (Nat × Option AObj)):List SV→Q:=fun vs=> .any Bool fun raw=>match raw with
 | true=> .need (rawOf vs=v∧vs.length=1∧ ∀ r∈v.names,lkO H' r≠none) (.done .bot [])
 | false=>cvArgs vs fun ds U=> .need (svOf ds=v∧offU H' U) (.done .bot [])
theorem zK {v:SV} {H':List (Nat × Option AObj)} (h:obAt s.ob H') (h2:(resQ P s.sl rl (rawQ v H')).run s.ob [] (fun _ _=>True)):RetO P rl (.ret v H') .ret s:=⟨obAt_ok h,h2⟩
theorem zL {v:SV} {H':List (Nat × Option AObj)} (h:obAt s.ob H') (h2:(resQ P s.sl rl (rawQ v H')).run s.ob [] (fun _ _=>True)):RetO P rl (.ret v H') .normal s:=⟨obAt_ok h,h2⟩
theorem raw_t {v:SV} {H':List (Nat × Option AObj)} {vs:List SV} {H:Hp} {rs:List Nat} (h:rawOf vs=v) (h1:vs.length=1) (h2:v.names.all (fun r=>(lkO H' r).isSome)=true):(rawQ v H' vs).run H rs (fun _ _=>True):=
 ⟨true,⟨h,h1,fun r hr=>by
  have:=List.all_eq_true.1 h2 r hr
  intro e
  rw [e] at this
  cases this⟩,trivial⟩
theorem raw_f {v:SV} {H':List (Nat × Option AObj)} {vs:List SV} {H:Hp} {rs:List Nat} (h:(cvArgs vs fun ds U=> .need (svOf ds=v∧offU H' U) (.done .bot [])).run H rs (fun _ _=>True)):(rawQ v H' vs).run H rs (fun _ _=>True):=⟨false,h⟩
theorem specO_go {f:FuncId} {fn:Func} {c:Code} {args:List AV} {H:List (Nat × AObj)} {out:OutO} {n:Nat} (hf:P.funcs[f]?=some fn) (hb:fn.body=some c) (hr:fn.results=⟨rl⟩) (hn:fn.ntmps=n) (ha:Nat.ble args.length n=true)
  (hd:hpOk out.hp) (hk:H.all (fun p=>(lkO out.hp p.1).isSome)=true)
  (h: ∀ (K:Ctx G) (m:NM),Sound P K (FrO n m (H.map (·.1))) c (RetO P rl out) ⟨lkS (initA 0 args),lkO (someO H)⟩):SpecO P G f args H out:=
 specO_of hf hb hr hn ha (hpOk_ok hd) (fun r hr e=>by
  obtain ⟨p,hp,rfl⟩:=List.mem_map.1 hr
  have:=List.all_eq_true.1 hk p hp
  rw [e] at this
  cases this) h
theorem int_beq {a b:Nat}:((a:Int)==(b:Int))=(a==b):=by
 rw [Bool.eq_iff_iff]
 simp only [beq_iff_eq]
 omega
theorem int_beqL {a b:Nat}:((a:Int)==(no_index (OfNat.ofNat b)))=(a==OfNat.ofNat b):=int_beq (b:=b)
theorem int_beq0 {n:Nat}:((n:Int)==0)=(n==0):=by
 rw [Bool.eq_iff_iff]
 simp
@[go_sem] theorem rep_2 {α:Type} {x:α}:List.replicate 2 x=[x,x]:=rfl
@[go_sem] theorem rep_3 {α:Type} {x:α}:List.replicate 3 x=[x,x,x]:=rfl
attribute [go_sem] Option.map_some Option.bind_some List.flatten_cons
theorem specO_empty {f:FuncId} {pre post:List AV} {H:List (Nat × AObj)} {out:OutO} (h: ∀ A c,SpecO P G f (pre++ .c (.d (.v (.slice A 0 c)))::post) H out):SpecO P G f (pre++ .c (.d (.sl 0 []))::post) H out:=by
 intro K m vs hS hB hH hl hc
 have hlt:pre.length<vs.length:=by rw [hl];simp
 have h0:RD K.w0 _ (.sl 0 []) vs[pre.length]:=hc pre.length (.c (.d (.sl 0 []))) _ (by simp) (List.getElem?_eq_getElem hlt)
 obtain ⟨A,c,hu,_⟩:=rd_sl h0
 refine h A c K m vs hS hB hH (by rw [hl];simp) fun i x v hx hv=>?_
 by_cases hi:i=pre.length
 ·subst hi
  rw [List.getElem?_append_right (Nat.le_refl _),Nat.sub_self] at hx
  have hx:some (AV.c (.d (.v (.slice A 0 c))))=some x:=hx
  injection hx with hx
  subst hx
  rw [List.getElem?_eq_getElem hlt,hu] at hv
  injection hv with hv
  subst hv
  exact RD.v _ rfl
 ·refine hc i x v ?_ hv
  rw [List.getElem?_append] at hx ⊢
  split at hx
  ·rename_i h1
   rw [if_pos h1]
   exact hx
  ·rename_i h1
   rw [if_neg h1]
   obtain ⟨j,hj⟩: ∃ j,i-pre.length=j+1:=⟨i-pre.length-1,by omega⟩
   rw [hj] at hx ⊢
   exact hx
attribute [go_sem] OutO.hp hpOk offN obAt offU List.map_nil
end
@[go_sem] def bytesD (l:List UInt8):D:= .sl l.length (l.map bD)
inductive Tree where
 | mk (list hinted:Bool) (hint data:List UInt8) (kids:List Tree)
def Tree.list:Tree→Bool| .mk l _ _ _ _=>l
def Tree.hinted:Tree→Bool| .mk _ h _ _ _=>h
def Tree.hint:Tree→List UInt8| .mk _ _ x _ _=>x
def Tree.data:Tree→List UInt8| .mk _ _ _ d _=>d
def Tree.kids:Tree→List Tree| .mk _ _ _ _ k=>k
theorem Tree.eta (t:Tree):t= .mk t.list t.hinted t.hint t.data t.kids:=by cases t;rfl
theorem Tree.kid_lt {t x:Tree} (h:x∈t.kids):SizeOf.sizeOf x<SizeOf.sizeOf t:=by
 cases t
 have:=List.sizeOf_lt_of_mem h
 simp only [Tree.kids] at this
 simp only [Tree.mk.sizeOf_spec]
 omega
theorem Tree.ind {P:Tree→Prop} (h: ∀ t,(∀ x∈t.kids,P x)→P t) (t:Tree):P t:=
 h t fun x hx=>Tree.ind h x
termination_by SizeOf.sizeOf t
decreasing_by exact Tree.kid_lt hx
def Tree.wt (t:Tree):Nat:=1+t.hint.length+t.data.length+(t.kids.attach.map fun x=>Tree.wt x.1).sum
termination_by SizeOf.sizeOf t
decreasing_by exact Tree.kid_lt x.2
theorem Tree.wt_eq (t:Tree):t.wt=1+t.hint.length+t.data.length+(t.kids.map Tree.wt).sum:=by
 rw [Tree.wt]
 congr 2
 simp
theorem sum_mem {l:List Tree} {x:Tree} (f:Tree→Nat) (h:x∈l):f x≤(l.map f).sum:=by
 induction l with
 | nil=>cases h
 | cons y l ih =>
  simp only [List.map_cons,List.sum_cons]
  rcases List.mem_cons.1 h with rfl|h
  ·omega
  ·have:=ih h;omega
theorem Tree.wt_kid {t x:Tree} (h:x∈t.kids):x.wt<t.wt:=by
 rw [Tree.wt_eq t]
 have:=sum_mem Tree.wt h
 omega
theorem Tree.wt_kids (t:Tree):t.kids.length≤t.wt:=by
 rw [Tree.wt_eq t]
 have: ∀ l:List Tree,l.length≤(l.map Tree.wt).sum:=by
  intro l
  induction l with
  | nil=>simp
  | cons y l ih =>
   have:1≤y.wt:=by rw [Tree.wt_eq];omega
   simp only [List.map_cons,List.sum_cons,List.length_cons]
   omega
 have:=this t.kids
 omega
theorem Tree.wt_hint (t:Tree):t.hint.length≤t.wt:=by rw [Tree.wt_eq];omega
theorem Tree.wt_data (t:Tree):t.data.length≤t.wt:=by rw [Tree.wt_eq];omega
end Go.Proofs.YtfammdfpgccnfaaGreatDoor
namespace Go.Proofs.YtfammdfpgccnfaaGreatDoor
def Tree.nodes (t:Tree):Nat:=1+(t.kids.attach.map fun x=>Tree.nodes x.1).sum
termination_by SizeOf.sizeOf t
decreasing_by exact Tree.kid_lt x.2
theorem Tree.nodes_eq (t:Tree):t.nodes=1+(t.kids.map Tree.nodes).sum:=by
 rw [Tree.nodes]
 congr 2
 simp
def Tree.fair (t:Tree):Bool:=if t.list then !t.hinted&&t.hint.length==0&&t.data.length==0 else t.kids.length==0&&(t.hinted||t.hint.length==0)
def Tree.clean (t:Tree):Bool:=t.fair&&t.kids.attach.all fun x=>Tree.clean x.1
termination_by SizeOf.sizeOf t
decreasing_by exact Tree.kid_lt x.2
theorem Tree.clean_eq (t:Tree):t.clean=(t.fair&&t.kids.all Tree.clean):=by
 rw [Tree.clean]
 congr 1
 simp
def most (l:List Nat):Nat:=l.foldl max 0
def Tree.deep (t:Tree):Nat:=if t.list then most (t.kids.attach.map fun x=>Tree.deep x.1)+1 else 0
termination_by SizeOf.sizeOf t
decreasing_by exact Tree.kid_lt x.2
theorem Tree.deep_eq (t:Tree):t.deep=if t.list then most (t.kids.map Tree.deep)+1 else 0:=by
 rw [Tree.deep]
 congr 2
 simp
theorem most_le {l:List Nat} {n:Nat}:most l≤n↔ ∀ k∈l,k≤n:=by
 have: ∀ (l:List Nat) (a:Nat),l.foldl max a≤n↔a≤n∧ ∀ k∈l,k≤n:=by
  intro l
  induction l with
  | nil=>simp
  | cons x l ih =>
   intro a
   rw [List.foldl_cons,ih]
   simp only [List.mem_cons,forall_eq_or_imp,Nat.max_le,and_assoc]
 have:=this l 0
 simpa [most] using this
def dec (n:Nat):List UInt8:=if n<10 then [UInt8.ofNat (48+n)] else dec (n/10)++[UInt8.ofNat (48+n%10)]
theorem dec_len {n:Nat}: ∀ k,n<10^(k+1)→(dec n).length≤k+1:=by
 intro k
 induction k generalizing n with
 | zero =>
  intro h
  rw [dec,if_pos (by simpa using h)]
  simp
 | succ k ih =>
  intro h
  rw [dec]
  split
  ·simp
  ·rw [List.length_append,List.length_singleton]
   have:=ih (n:=n/10) (by rw [Nat.div_lt_iff_lt_mul (by omega)];rw [Nat.pow_succ] at h;omega)
   omega
theorem dec_pos (n:Nat):1≤(dec n).length:=by
 rw [dec]
 split<;>simp
def textB (b:List UInt8):List UInt8:=dec b.length++[58]++b
theorem textB_len {b:List UInt8} {n:Nat} (h:b.length≤n) (hn:n<100000000):(textB b).length≤n+9:=by
 have:=dec_len (n:=b.length) 7 (by simp only [Nat.reduceAdd,Nat.reducePow];omega)
 simp only [textB,List.length_append,List.length_singleton]
 omega
def Tree.atomF (t:Tree):List UInt8:=(if t.hinted then [91]++textB t.hint++[93] else [])++textB t.data
def Tree.form (t:Tree):List UInt8:=if t.list then [40]++(t.kids.attach.map fun x=>Tree.form x.1).flatten++[41] else t.atomF
termination_by SizeOf.sizeOf t
decreasing_by exact Tree.kid_lt x.2
theorem Tree.form_eq (t:Tree):t.form=if t.list then [40]++(t.kids.map Tree.form).flatten++[41] else t.atomF:=by
 rw [Tree.form]
 congr 3
 simp
theorem Tree.form_wt: ∀ t:Tree,t.wt≤30000000→t.form.length≤21*t.wt:=Tree.ind fun t ih=>by
 intro hw
 rw [Tree.form_eq]
 split
 ·have: ∀ l:List Tree,(∀ x∈l,x.form.length≤21*x.wt)→(l.map Tree.form).flatten.length≤21*(l.map Tree.wt).sum:=by
   intro l
   induction l with
   | nil=>simp
   | cons x l ih =>
    intro h
    have h0:=h x (by simp)
    have:=ih fun y hy=>h y (by simp [hy])
    simp only [List.map_cons,List.sum_cons,List.flatten_cons,List.length_append]
    omega
  have:=this t.kids fun x hx=>ih x hx (by have:=Tree.wt_kid hx;omega)
  rw [Tree.wt_eq]
  simp only [List.length_append,List.length_singleton]
  omega
 ·have h1:=textB_len (b:=t.hint) (Nat.le_refl _) (by have:=t.wt_hint;omega)
  have h2:=textB_len (b:=t.data) (Nat.le_refl _) (by have:=t.wt_data;omega)
  rw [Tree.wt_eq]
  unfold Tree.atomF
  split<;>simp only [List.length_append,List.length_singleton,List.length_nil]<;>omega
def Tree.may (t:Tree):Bool:=t.clean&&decide (t.nodes≤512)&&decide (t.deep≤16)&&decide (t.form.length≤4096)
noncomputable def Tree.same (t u:Tree):Bool:= @decide (t=u) (Classical.propDecidable _)
theorem Tree.ext_iff {t u:Tree}:t=u↔t.list=u.list∧t.hinted=u.hinted∧t.hint=u.hint∧t.data=u.data∧t.kids=u.kids:=by
 cases t
 cases u
 simp [Tree.list,Tree.hinted,Tree.hint,Tree.data,Tree.kids]
end Go.Proofs.YtfammdfpgccnfaaGreatDoor
namespace Go.Proofs.YtfammdfpgccnfaaGreatDoor
open Go.RowKit
def treeC (t:Tree):List D:=[.v (.bool t.list),.v (.bool t.hinted),bytesD t.hint,bytesD t.data,.sl t.kids.length (t.kids.attach.map fun x=>treeC x.1).flatten]
termination_by SizeOf.sizeOf t
decreasing_by exact Tree.kid_lt x.2
@[go_sem] def treeK (t:Tree):List C:=[.d (.v (.bool t.list)),.d (.v (.bool t.hinted)),.d (bytesD t.hint),.d (bytesD t.data),.d (.sl t.kids.length (t.kids.flatMap treeC))]
theorem treeC_eq (t:Tree):treeC t=[.v (.bool t.list),.v (.bool t.hinted),bytesD t.hint,bytesD t.data,.sl t.kids.length (t.kids.flatMap treeC)]:=by
 rw [treeC]
 simp [List.flatMap]
@[go_sem] theorem treeC_len (t:Tree):(treeC t).length=5:=by rw [treeC_eq];rfl
theorem treeC_mk (l h:Bool) (x d:List UInt8) (k:List Tree):treeC (.mk l h x d k)=[.v (.bool l),.v (.bool h),bytesD x,bytesD d,.sl k.length (k.flatMap treeC)]:=treeC_eq _
@[go_sem] theorem treeC_take (t:Tree):((treeC t).map C.d).take 5=(treeC t).map C.d:=List.take_of_length_le (by rw [List.length_map,treeC_len];exact Nat.le_refl _)
@[go_sem] theorem treeC_flen (l:List Tree):(l.flatMap treeC).length=l.length*5:=flat_len treeC_len l
theorem sum_at {α:Type} {l:List α} {k:Nat} {x:α} (f:α→Nat) (h:l[k]?=some x):((l.take (k+1)).map f).sum=((l.take k).map f).sum+f x:=by
 rw [List.take_add_one,h]
 simp
theorem sum_upto {α:Type} {l:List α} {k:Nat} (f:α→Nat):((l.take k).map f).sum≤(l.map f).sum:=by
 induction l generalizing k with
 | nil=>simp
 | cons x l ih =>
  cases k with
  | zero=>simp
  | succ k =>
   have:=ih (k:=k)
   simp only [List.take_succ_cons,List.map_cons,List.sum_cons]
   omega
theorem str_size (x:List UInt8):(⟨x.toArray⟩:ByteArray).size=x.length:=by simp [ByteArray.size]
end Go.Proofs.YtfammdfpgccnfaaGreatDoor
namespace Go.Proofs.YtfammdfpgccnfaaGreatDoor
def atomT (s:List UInt8):Tree:= .mk false false [] s []
def listT (l:List Tree):Tree:= .mk true false [] [] l
def isB (t:Tree) (s:List UInt8):Bool:= !t.list&& !t.hinted&&(t.data==s)
def headB (t:Tree) (s:List UInt8):Bool:=t.list&&(match t.kids with
 | []=>false
 | x::_=>isB x s)
theorem fair_atomT {t:Tree} (h:t.fair=true) (hl:t.list=false) (hh:t.hinted=false):t=atomT t.data:=by
 rw [Tree.fair,hl,hh] at h
 simp at h
 rw [Tree.eta t,hl,hh]
 simp [atomT,h,Tree.data]
theorem fair_listT {t:Tree} (h:t.fair=true) (hl:t.list=true):t=listT t.kids:=by
 rw [Tree.fair,hl] at h
 simp at h
 rw [Tree.eta t,hl]
 simp [listT,h,Tree.kids]
theorem isB_iff {t:Tree} {s:List UInt8} (h:t.fair=true):isB t s=true↔t=atomT s:=by
 constructor
 ·intro hi
  simp [isB] at hi
  obtain ⟨⟨h1,h2⟩,h3⟩:=hi
  rw [fair_atomT h h1 h2,h3]
 ·rintro rfl
  simp [isB,atomT,Tree.list,Tree.hinted,Tree.data]
end Go.Proofs.YtfammdfpgccnfaaGreatDoor
namespace Go.Proofs.YtfammdfpgccnfaaGreatDoor
open Go.RowKit
theorem bclone_m {G:Nat→Option (List D)} (l:List UInt8) (hl:l.length≤1000000000000):Spec Tryz.prog G 104 [.c (bytesD l)] (.one (.c (bytesD l))):=by
 cases l with
 | nil =>
  refine spec_empty (pre:=[]) (post:=[]) rfl fun A c=>?_
  refine spec_of Tryz.func104 rfl rfl rfl (by kernel_rfl) rfl fun K=>?_
  cases A<;>(repeat' (first|with_reducible (first|refine zA fun Kn hK=>?_|refine zU ?_|refine Nx.go ?_|go_step)|with_reducible (first|refine zI ?_|refine zV ?_)|simp (maxSteps:=9^9) (disch:=omega) only [wq]|with_reducible refine zM (fun hb=>?_) (fun hb=>?_)<;>try simp only [hb]|with_reducible refine And.intro (by first|omega|(simp;done)|(simp;omega)) ?_|simp (maxSteps:=9^9) -implicitDefEqProofs only [go_sem,true_and]))
 | cons x l =>
  generalize hn:x::l=k at *
  have h0:0<k.length:=by rw [← hn];simp
  refine spec_of Tryz.func104 rfl rfl rfl (by kernel_rfl) rfl fun K=>?_
  (repeat' (first|with_reducible (first|refine zA fun Kn hK=>?_|refine zU ?_|refine Nx.go ?_|go_step)|with_reducible (first|refine zI ?_|refine zV ?_)|simp (maxSteps:=9^9) (disch:=omega) only [wq]|with_reducible refine zM (fun hb=>?_) (fun hb=>?_)<;>try simp only [hb]|with_reducible refine And.intro (by first|omega|(simp;done)|(simp;omega)) ?_|simp (maxSteps:=9^9) -implicitDefEqProofs only [go_sem,List.length_map]))
theorem sclone_m {G:Nat→Option (List D)} (l:List Tree) (hl:l.length≤100000000):Spec Tryz.prog G 94 [.c (.sl l.length (l.flatMap treeC))] (.one (.c (.sl l.length (l.flatMap treeC)))):=by
 cases l with
 | nil =>
  refine spec_empty (pre:=[]) (post:=[]) rfl fun A c=>?_
  refine spec_of Tryz.func94 rfl rfl rfl (by kernel_rfl) rfl fun K=>?_
  cases A<;>(repeat' (first|with_reducible (first|refine zA fun Kn hK=>?_|refine zU ?_|refine Nx.go ?_|go_step)|with_reducible (first|refine zI ?_|refine zV ?_)|simp (maxSteps:=9^9) (disch:=omega) only [wq]|with_reducible refine zM (fun hb=>?_) (fun hb=>?_)<;>try simp only [hb]|with_reducible refine And.intro (by first|omega|(simp;done)|(simp;omega)) ?_|simp (maxSteps:=9^9) -implicitDefEqProofs only [go_sem,true_and,List.flatMap_nil]))
 | cons x l =>
  generalize hn:x::l=k at *
  have h0:0<k.length:=by rw [← hn];simp
  refine spec_of Tryz.func94 rfl rfl rfl (by kernel_rfl) rfl fun K=>?_
  (repeat' (first|with_reducible (first|refine zA fun Kn hK=>?_|refine zU ?_|refine Nx.go ?_|go_step)|with_reducible (first|refine zI ?_|refine zV ?_)|simp (maxSteps:=9^9) (disch:=omega) only [wq]|with_reducible refine zM (fun hb=>?_) (fun hb=>?_)<;>try simp only [hb]|with_reducible refine And.intro (by first|omega|(simp;done)|(simp;omega)) ?_|simp (maxSteps:=9^9) -implicitDefEqProofs only [go_sem,List.length_map]))
theorem equal_m {G:Nat→Option (List D)} (x y:List UInt8):Spec Tryz.prog G 39 [.c (bytesD x),.c (bytesD y)] (.one (.c (.v (.bool (x==y))))):=by
 refine spec_of Tryz.func39 rfl rfl rfl (by kernel_rfl) rfl fun K=>?_
 (repeat' (first|with_reducible (first|refine zA fun Kn hK=>?_|refine zU ?_|refine Nx.go ?_|go_step)|with_reducible (first|refine zI ?_|refine zV ?_)|simp (maxSteps:=9^9) (disch:=omega) only [wq]|with_reducible refine zM (fun hb=>?_) (fun hb=>?_)<;>try simp only [hb]|with_reducible refine And.intro (by first|omega|(simp;done)|(simp;omega)) ?_|simp (maxSteps:=9^9) -implicitDefEqProofs only [go_sem,true_and]))
theorem atom_m {G:Nat→Option (List D)} (l:List UInt8) (hl:l.length≤1000000000000):Spec Tryz.prog G 52 [.c (.v (.string ⟨l.toArray⟩))] (.one (.g (treeC (.mk false false [] l [])))):=by
 refine spec_of Tryz.func52 rfl rfl rfl (by kernel_rfl) rfl fun K=>?_
 rw [treeC_eq]
 (repeat' (first|with_reducible (first|refine zA fun Kn hK=>?_|refine zU ?_|refine Nx.go ?_|go_step)|with_reducible (first|refine zI ?_|refine zV ?_)|simp (maxSteps:=9^9) (disch:=omega) only [wq]|with_reducible refine zM (fun hb=>?_) (fun hb=>?_)<;>try simp only [hb]|with_reducible refine And.intro (by first|omega|(simp;done)|(simp;omega)) ?_|simp (maxSteps:=9^9) -implicitDefEqProofs only [go_sem,str_size]))
 rfl
theorem list_m {G:Nat→Option (List D)} (l:List Tree) (hl:l.length≤100000000):Spec Tryz.prog G 51 [.c (.sl l.length (l.flatMap treeC))] (.one (.g (treeC (.mk true false [] [] l)))):=by
 refine spec_of Tryz.func51 rfl rfl rfl (by kernel_rfl) rfl fun K=>?_
 rw [treeC_eq]
 (repeat' (first|with_reducible (first|refine zA fun Kn hK=>?_|refine zU ?_|refine Nx.go ?_|go_step)|refine ⟨_,sclone_m l hl,?_⟩|with_reducible (first|refine zI ?_|refine zV ?_)|simp (maxSteps:=9^9) (disch:=omega) only [wq]|with_reducible refine zM (fun hb=>?_) (fun hb=>?_)<;>try simp only [hb]|with_reducible refine And.intro (by first|omega|(simp;done)|(simp;omega)) ?_|simp (maxSteps:=9^9) -implicitDefEqProofs only [go_sem,true_and]))
 rfl
theorem isref_m {G:Nat→Option (List D)} (t:Tree) {cs:List D} (hcs:treeC t=cs) (s:List UInt8):Spec Tryz.prog G 77 [.g cs,.c (.v (.string ⟨s.toArray⟩))] (.one (.c (.v (.bool (isB t s))))):=by
 subst hcs
 refine spec_of Tryz.func77 rfl rfl rfl (by kernel_rfl) rfl fun K=>?_
 rw [treeC_eq]
 (repeat' (first|with_reducible (first|refine zA fun Kn hK=>?_|refine zU ?_|refine Nx.go ?_|go_step)|with_reducible (first|refine zI ?_|refine zV ?_)|simp (maxSteps:=9^9) (disch:=omega) only [wq]|with_reducible refine zM (fun hb=>?_) (fun hb=>?_)<;>try simp only [hb]|with_reducible refine And.intro (by first|omega|(simp;done)|(simp;omega)) ?_|simp (maxSteps:=9^9) -implicitDefEqProofs only [go_sem,true_and]))
 all_goals (unfold isB;simp only [*];first|rfl|simp)
theorem headref_m {G:Nat→Option (List D)} (t:Tree) {cs:List D} (hcs:treeC t=cs) (s:List UInt8):Spec Tryz.prog G 37 [.g cs,.c (.v (.string ⟨s.toArray⟩))] (.one (.c (.v (.bool (headB t s))))):=by
 subst hcs
 refine spec_of Tryz.func37 rfl rfl rfl (by kernel_rfl) rfl fun K=>?_
 rw [treeC_eq]
 cases hk:t.kids with
 | nil =>
  have h0:decide ((0:Int)<((0:Nat):Int))=false:=rfl
  (repeat' (first|with_reducible (first|refine zA fun Kn hK=>?_|refine zU ?_|refine Nx.go ?_|go_step)|with_reducible (first|refine zI ?_|refine zV ?_)|simp (maxSteps:=9^9) (disch:=omega) only [wq]|with_reducible refine zM (fun hb=>?_) (fun hb=>?_)<;>try simp only [hb]|with_reducible refine And.intro (by first|omega|(simp;done)|(simp;omega)) ?_|simp (maxSteps:=9^9) -implicitDefEqProofs only [go_sem,gt_iff_lt,h0]))
  all_goals (unfold headB;simp only [*];rfl)
 | cons x l =>
  have h0:decide ((0:Int)<((l.length+1:Nat):Int))=true:=by simp
  have h1:((x::l).flatMap treeC).take 5=treeC x:=flat_at treeC_len (k:=0) rfl
  (repeat' (first|with_reducible (first|refine zA fun Kn hK=>?_|refine zU ?_|refine Nx.go ?_|go_step)|(refine ⟨_,isref_m x (by first|rfl|(rw [treeC_eq];first|rfl|(simp only [go_sem, *];done))) s,?_⟩)|with_reducible (first|refine zI ?_|refine zV ?_)|simp (maxSteps:=9^9) (disch:=omega) only [wq]|with_reducible refine zM (fun hb=>?_) (fun hb=>?_)<;>try simp only [hb]|with_reducible refine And.intro (by first|omega|(simp;done)|(simp;omega)) ?_|simp (maxSteps:=9^9) -implicitDefEqProofs only [go_sem,gt_iff_lt,h0,h1]))
  all_goals (unfold headB;simp only [*];rfl)
theorem sclone_o {G:Nat→Option (List D)} (l:List Tree) (hl:l.length≤100000000):Spec Tryz.prog G 94 [.c (.sl l.length (l.flatMap treeC))] (.obj 7 (.a (.c (.row 7 5 0 l.length .grow))) ⟨45,(l.flatMap treeC).map C.d,false,false⟩):=by
 cases l with
 | nil =>
  refine specO_empty (pre:=[]) (post:=[]) fun A c=>?_
  refine specO_go Tryz.func94 rfl rfl rfl (by kernel_rfl) (by (iterate 2 ((try simp (maxSteps:=9^9) -implicitDefEqProofs only [go_sem,true_and]);(try simp (maxSteps:=9^9) (disch:=omega) only [wq])))) (by (iterate 2 ((try simp (maxSteps:=9^9) -implicitDefEqProofs only [go_sem,List.all_cons,List.all_nil]);(try simp (maxSteps:=9^9) (disch:=omega) only [wq])))) fun K m=>?_
  cases A with
  | none =>
   (repeat' (first|with_reducible (first|refine zA fun Kn hK=>?_|refine zU ?_|refine zD ?_|refine zN ?_|refine zH ?_|go_step)|with_reducible (first|refine zI ?_|refine zK ?_ ?_|refine zL ?_ ?_|refine zV ?_)|simp (maxSteps:=9^9) (disch:=omega) only [wq]|with_reducible refine zM (fun hb=>?_) (fun hb=>?_)<;>try simp only [hb]|with_reducible refine And.intro (by first|omega|(simp;done)|(simp;omega)) ?_|simp (maxSteps:=9^9) -implicitDefEqProofs only [go_sem,true_and,List.flatMap_nil]))
   refine sound_void 2 7 5 45 (by rfl) (by rfl) ?_
   (repeat' (first|with_reducible (first|refine zA fun Kn hK=>?_|refine zU ?_|refine Nx.go ?_|go_step)|refine raw_t (by rfl) (by rfl) (by rfl)|with_reducible (first|refine zI ?_|refine zK ?_ ?_|refine zL ?_ ?_|refine zV ?_)|simp (maxSteps:=9^9) (disch:=omega) only [wq]|with_reducible refine zM (fun hb=>?_) (fun hb=>?_)<;>try simp only [hb]|with_reducible refine And.intro (by first|omega|(simp;done)|(simp;omega)) ?_|simp (maxSteps:=9^9) -implicitDefEqProofs only [go_sem,true_and,List.flatMap_nil,List.map_nil]))
  | some A=>(repeat' (first|with_reducible (first|refine zA fun Kn hK=>?_|refine zU ?_|refine Nx.go ?_|go_step)|refine raw_t (by rfl) (by rfl) (by rfl)|with_reducible (first|refine zI ?_|refine zK ?_ ?_|refine zL ?_ ?_|refine zV ?_)|simp (maxSteps:=9^9) (disch:=omega) only [wq]|with_reducible refine zM (fun hb=>?_) (fun hb=>?_)<;>try simp only [hb]|with_reducible refine And.intro (by first|omega|(simp;done)|(simp;omega)) ?_|simp (maxSteps:=9^9) -implicitDefEqProofs only [go_sem,true_and,List.flatMap_nil,List.map_nil]))
 | cons x l =>
  generalize hn:x::l=k at *
  have h0:0<k.length:=by rw [← hn];simp
  refine specO_go Tryz.func94 rfl rfl rfl (by kernel_rfl) (by (iterate 2 ((try simp (maxSteps:=9^9) -implicitDefEqProofs only [go_sem,true_and]);(try simp (maxSteps:=9^9) (disch:=omega) only [wq])))) (by (iterate 2 ((try simp (maxSteps:=9^9) -implicitDefEqProofs only [go_sem,List.all_cons,List.all_nil]);(try simp (maxSteps:=9^9) (disch:=omega) only [wq])))) fun K m=>?_
  (repeat' (first|with_reducible (first|refine zA fun Kn hK=>?_|refine zU ?_|refine Nx.go ?_|go_step)|refine raw_t (by rfl) (by rfl) (by rfl)|with_reducible (first|refine zI ?_|refine zK ?_ ?_|refine zL ?_ ?_|refine zV ?_)|simp (maxSteps:=9^9) (disch:=omega) only [wq]|with_reducible refine zM (fun hb=>?_) (fun hb=>?_)<;>try simp only [hb]|with_reducible refine And.intro (by first|omega|(simp;done)|(simp;omega)) ?_|simp (maxSteps:=9^9) -implicitDefEqProofs only [go_sem,List.length_map]))
section
variable {P:Program} {w w':World}
end
theorem below_ev {w w':World} (h:Ev (fun _=>False) w w'):Below w.heap.size w w':=⟨h.os,h.tape,h.output,h.size,fun k hk=>h.block k hk fun h=>h⟩
theorem slKeepM {r:Rep UInt8} {S:Nat→Prop} {w w':World} {A:Option Addr} {n c:Nat} {x:List UInt8} (h:r.sl w S A n c x) (hB:Below w.heap.size w w') (hS: ∀ b,S b→b<w.heap.size):r.sl w' S A n c x:=Rep.sl_below h hB hS
end Go.Proofs.YtfammdfpgccnfaaGreatDoor
