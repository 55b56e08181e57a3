/- Parts of the proof, laid together. -/
import Derived.Test.YtfammdfpgccnfaaGreatDoorA2
import Derived.Test.YtfammdfpgccnfaaGreatDoorProg
import Derived.WalkKit
import Derived.ArgAppend
import Derived.Deep.RegionWith
import Derived.BigQuiet
set_option linter.unusedVariables false
set_option linter.unusedSimpArgs false
set_option maxRecDepth 100000
set_option maxHeartbeats 8000000
namespace Go.Proofs.YtfammdfpgccnfaaGreatDoor
open Go Go.RowKit
@[go_sem] theorem ty2_kd:kdOf Tryz.prog 2=Kd.int IntKind.i64:=by kernel_rfl
@[go_sem] theorem ty2_sz:szOf Tryz.prog 2=1:=by kernel_rfl
@[go_sem] theorem ty2_ok:tyok Tryz.prog 2=true:=by kernel_rfl
@[go_sem] theorem ty3_kd:kdOf Tryz.prog 3=Kd.int IntKind.i64:=by kernel_rfl
@[go_sem] theorem ty3_sz:szOf Tryz.prog 3=1:=by kernel_rfl
@[go_sem] theorem ty3_ok:tyok Tryz.prog 3=true:=by kernel_rfl
@[go_sem] theorem ty3_z:zeroOf Tryz.prog 3=[C.d (D.v (Value.int IntKind.i64 0))]:=by kernel_rfl
@[go_sem] theorem ty4_kd:kdOf Tryz.prog 4=Kd.bool:=by kernel_rfl
@[go_sem] theorem ty4_sz:szOf Tryz.prog 4=1:=by kernel_rfl
@[go_sem] theorem ty4_ok:tyok Tryz.prog 4=true:=by kernel_rfl
@[go_sem] theorem ty5_kd:kdOf Tryz.prog 5=Kd.int IntKind.u8:=by kernel_rfl
@[go_sem] theorem ty5_sz:szOf Tryz.prog 5=1:=by kernel_rfl
@[go_sem] theorem ty5_by:byOf Tryz.prog 5=1:=by kernel_rfl
@[go_sem] theorem ty5_ok:tyok Tryz.prog 5=true:=by kernel_rfl
@[go_sem] theorem ty5_z:zeroOf Tryz.prog 5=[C.d (D.v (Value.int IntKind.u8 0))]:=by kernel_rfl
@[go_sem] theorem ty9_kd:kdOf Tryz.prog 9=Kd.str:=by kernel_rfl
@[go_sem] theorem ty9_sz:szOf Tryz.prog 9=1:=by kernel_rfl
@[go_sem] theorem ty9_ok:tyok Tryz.prog 9=true:=by kernel_rfl
@[go_sem] theorem ty9_z:zeroOf Tryz.prog 9=[C.d (D.v (Value.string { data:= #[] }))]:=by kernel_rfl
@[go_sem] theorem ty22_kd:kdOf Tryz.prog 22=Kd.sl 5:=by kernel_rfl
@[go_sem] theorem ty22_sz:szOf Tryz.prog 22=1:=by kernel_rfl
@[go_sem] theorem ty22_by:byOf Tryz.prog 22=24:=by kernel_rfl
@[go_sem] theorem ty22_ok:tyok Tryz.prog 22=true:=by kernel_rfl
@[go_sem] theorem ty22_z:zeroOf Tryz.prog 22=[C.nil]:=by kernel_rfl
@[go_sem] theorem ty24_kd:kdOf Tryz.prog 24=Kd.st:=by kernel_rfl
@[go_sem] theorem ty24_sz:szOf Tryz.prog 24=2:=by kernel_rfl
@[go_sem] theorem ty24_by:byOf Tryz.prog 24=32:=by kernel_rfl
@[go_sem] theorem ty24_ok:tyok Tryz.prog 24=true:=by kernel_rfl
@[go_sem] theorem ty24_z:zeroOf Tryz.prog 24=[C.d (D.v (Value.bool false)),C.nil]:=by kernel_rfl
@[go_sem] theorem ty24_f0:fldOf Tryz.prog 24 0=(0,4):=by kernel_rfl
@[go_sem] theorem ty24_i0:isFld Tryz.prog 24 0=true:=by kernel_rfl
@[go_sem] theorem ty24_f1:fldOf Tryz.prog 24 1=(1,22):=by kernel_rfl
@[go_sem] theorem ty24_i1:isFld Tryz.prog 24 1=true:=by kernel_rfl
@[go_sem] theorem ty24_b:bldOk Tryz.prog 24=true:=by kernel_rfl
@[go_sem] theorem ty25_kd:kdOf Tryz.prog 25=Kd.sl 22:=by kernel_rfl
@[go_sem] theorem ty25_sz:szOf Tryz.prog 25=1:=by kernel_rfl
@[go_sem] theorem ty25_ok:tyok Tryz.prog 25=true:=by kernel_rfl
@[go_sem] theorem ty26_kd:kdOf Tryz.prog 26=Kd.sl 28:=by kernel_rfl
@[go_sem] theorem ty26_sz:szOf Tryz.prog 26=1:=by kernel_rfl
@[go_sem] theorem ty26_ok:tyok Tryz.prog 26=true:=by kernel_rfl
@[go_sem] theorem ty28_kd:kdOf Tryz.prog 28=Kd.st:=by kernel_rfl
@[go_sem] theorem ty28_sz:szOf Tryz.prog 28=6:=by kernel_rfl
@[go_sem] theorem ty28_by:byOf Tryz.prog 28=96:=by kernel_rfl
@[go_sem] theorem ty28_ok:tyok Tryz.prog 28=true:=by kernel_rfl
@[go_sem] theorem ty28_z:zeroOf Tryz.prog 28=[C.d (D.v (Value.int IntKind.u8 0)),C.d (D.v (Value.bool false)),C.nil,C.nil,C.d (D.v (Value.int IntKind.i64 0)),C.nil]:=by kernel_rfl
@[go_sem] theorem ty28_f0:fldOf Tryz.prog 28 0=(0,5):=by kernel_rfl
@[go_sem] theorem ty28_i0:isFld Tryz.prog 28 0=true:=by kernel_rfl
@[go_sem] theorem ty28_f1:fldOf Tryz.prog 28 1=(1,24):=by kernel_rfl
@[go_sem] theorem ty28_i1:isFld Tryz.prog 28 1=true:=by kernel_rfl
@[go_sem] theorem ty28_f2:fldOf Tryz.prog 28 2=(3,25):=by kernel_rfl
@[go_sem] theorem ty28_i2:isFld Tryz.prog 28 2=true:=by kernel_rfl
@[go_sem] theorem ty28_f3:fldOf Tryz.prog 28 3=(4,3):=by kernel_rfl
@[go_sem] theorem ty28_i3:isFld Tryz.prog 28 3=true:=by kernel_rfl
@[go_sem] theorem ty28_f4:fldOf Tryz.prog 28 4=(5,26):=by kernel_rfl
@[go_sem] theorem ty28_i4:isFld Tryz.prog 28 4=true:=by kernel_rfl
@[go_sem] theorem ty28_b:bldOk Tryz.prog 28=true:=by kernel_rfl
@[go_sem] theorem ty29_kd:kdOf Tryz.prog 29=Kd.sl 35:=by kernel_rfl
@[go_sem] theorem ty29_sz:szOf Tryz.prog 29=1:=by kernel_rfl
@[go_sem] theorem ty29_ok:tyok Tryz.prog 29=true:=by kernel_rfl
@[go_sem] theorem ty31_kd:kdOf Tryz.prog 31=Kd.st:=by kernel_rfl
@[go_sem] theorem ty31_sz:szOf Tryz.prog 31=3:=by kernel_rfl
@[go_sem] theorem ty31_ok:tyok Tryz.prog 31=true:=by kernel_rfl
@[go_sem] theorem ty31_z:zeroOf Tryz.prog 31=[C.d (D.v (Value.bool false)),C.d (D.v (Value.bool false)),C.nil]:=by kernel_rfl
@[go_sem] theorem ty31_f0:fldOf Tryz.prog 31 0=(0,4):=by kernel_rfl
@[go_sem] theorem ty31_i0:isFld Tryz.prog 31 0=true:=by kernel_rfl
@[go_sem] theorem ty31_f1:fldOf Tryz.prog 31 1=(1,4):=by kernel_rfl
@[go_sem] theorem ty31_i1:isFld Tryz.prog 31 1=true:=by kernel_rfl
@[go_sem] theorem ty31_f2:fldOf Tryz.prog 31 2=(2,22):=by kernel_rfl
@[go_sem] theorem ty31_i2:isFld Tryz.prog 31 2=true:=by kernel_rfl
@[go_sem] theorem ty31_b:bldOk Tryz.prog 31=true:=by kernel_rfl
@[go_sem] theorem ty33_kd:kdOf Tryz.prog 33=Kd.st:=by kernel_rfl
@[go_sem] theorem ty33_sz:szOf Tryz.prog 33=7:=by kernel_rfl
@[go_sem] theorem ty33_ok:tyok Tryz.prog 33=true:=by kernel_rfl
@[go_sem] theorem ty33_z:zeroOf Tryz.prog 33=[C.d (D.v (Value.int IntKind.u8 0)),C.d (D.v (Value.bool false)),C.d (D.v (Value.bool false)),C.nil,C.d (D.v (Value.bool false)),C.d (D.v (Value.bool false)),C.nil]:=by kernel_rfl
@[go_sem] theorem ty33_f0:fldOf Tryz.prog 33 0=(0,5):=by kernel_rfl
@[go_sem] theorem ty33_i0:isFld Tryz.prog 33 0=true:=by kernel_rfl
@[go_sem] theorem ty33_f1:fldOf Tryz.prog 33 1=(1,31):=by kernel_rfl
@[go_sem] theorem ty33_i1:isFld Tryz.prog 33 1=true:=by kernel_rfl
@[go_sem] theorem ty33_f2:fldOf Tryz.prog 33 2=(4,31):=by kernel_rfl
@[go_sem] theorem ty33_i2:isFld Tryz.prog 33 2=true:=by kernel_rfl
@[go_sem] theorem ty33_b:bldOk Tryz.prog 33=true:=by kernel_rfl
@[go_sem] theorem ty35_kd:kdOf Tryz.prog 35=Kd.st:=by kernel_rfl
@[go_sem] theorem ty35_sz:szOf Tryz.prog 35=10:=by kernel_rfl
@[go_sem] theorem ty35_by:byOf Tryz.prog 35=128:=by kernel_rfl
@[go_sem] theorem ty35_ok:tyok Tryz.prog 35=true:=by kernel_rfl
@[go_sem] theorem ty35_z:zeroOf Tryz.prog 35=[C.d (D.v (Value.int IntKind.u8 0)),C.nil,C.nil,C.d (D.v (Value.int IntKind.u8 0)),C.d (D.v (Value.bool false)),C.d (D.v (Value.bool false)),C.nil,C.d (D.v (Value.bool false)),C.d (D.v (Value.bool false)),C.nil]:=by kernel_rfl
@[go_sem] theorem ty35_f0:fldOf Tryz.prog 35 0=(0,5):=by kernel_rfl
@[go_sem] theorem ty35_i0:isFld Tryz.prog 35 0=true:=by kernel_rfl
@[go_sem] theorem ty35_f1:fldOf Tryz.prog 35 1=(1,22):=by kernel_rfl
@[go_sem] theorem ty35_i1:isFld Tryz.prog 35 1=true:=by kernel_rfl
@[go_sem] theorem ty35_f2:fldOf Tryz.prog 35 2=(2,29):=by kernel_rfl
@[go_sem] theorem ty35_i2:isFld Tryz.prog 35 2=true:=by kernel_rfl
@[go_sem] theorem ty35_f3:fldOf Tryz.prog 35 3=(3,33):=by kernel_rfl
@[go_sem] theorem ty35_i3:isFld Tryz.prog 35 3=true:=by kernel_rfl
@[go_sem] theorem ty35_b:bldOk Tryz.prog 35=true:=by kernel_rfl
@[go_sem] theorem ty37_kd:kdOf Tryz.prog 37=Kd.st:=by kernel_rfl
@[go_sem] theorem ty37_sz:szOf Tryz.prog 37=4:=by kernel_rfl
@[go_sem] theorem ty37_ok:tyok Tryz.prog 37=true:=by kernel_rfl
@[go_sem] theorem ty37_z:zeroOf Tryz.prog 37=[C.d (D.v (Value.bool false)),C.d (D.v (Value.int IntKind.i64 0)),C.d (D.v (Value.bool false)),C.d (D.v (Value.int IntKind.i64 0))]:=by kernel_rfl
@[go_sem] theorem ty37_f0:fldOf Tryz.prog 37 0=(0,4):=by kernel_rfl
@[go_sem] theorem ty37_i0:isFld Tryz.prog 37 0=true:=by kernel_rfl
@[go_sem] theorem ty37_f1:fldOf Tryz.prog 37 1=(1,2):=by kernel_rfl
@[go_sem] theorem ty37_i1:isFld Tryz.prog 37 1=true:=by kernel_rfl
@[go_sem] theorem ty37_f2:fldOf Tryz.prog 37 2=(2,4):=by kernel_rfl
@[go_sem] theorem ty37_i2:isFld Tryz.prog 37 2=true:=by kernel_rfl
@[go_sem] theorem ty37_f3:fldOf Tryz.prog 37 3=(3,2):=by kernel_rfl
@[go_sem] theorem ty37_i3:isFld Tryz.prog 37 3=true:=by kernel_rfl
@[go_sem] theorem ty37_b:bldOk Tryz.prog 37=true:=by kernel_rfl
@[go_sem] theorem ty43_kd:kdOf Tryz.prog 43=Kd.sl 45:=by kernel_rfl
@[go_sem] theorem ty43_sz:szOf Tryz.prog 43=1:=by kernel_rfl
@[go_sem] theorem ty43_ok:tyok Tryz.prog 43=true:=by kernel_rfl
@[go_sem] theorem ty45_kd:kdOf Tryz.prog 45=Kd.st:=by kernel_rfl
@[go_sem] theorem ty45_sz:szOf Tryz.prog 45=5:=by kernel_rfl
@[go_sem] theorem ty45_by:byOf Tryz.prog 45=80:=by kernel_rfl
@[go_sem] theorem ty45_ok:tyok Tryz.prog 45=true:=by kernel_rfl
@[go_sem] theorem ty45_z:zeroOf Tryz.prog 45=[C.d (D.v (Value.bool false)),C.d (D.v (Value.bool false)),C.nil,C.nil,C.nil]:=by kernel_rfl
@[go_sem] theorem ty45_f0:fldOf Tryz.prog 45 0=(0,4):=by kernel_rfl
@[go_sem] theorem ty45_i0:isFld Tryz.prog 45 0=true:=by kernel_rfl
@[go_sem] theorem ty45_f1:fldOf Tryz.prog 45 1=(1,4):=by kernel_rfl
@[go_sem] theorem ty45_i1:isFld Tryz.prog 45 1=true:=by kernel_rfl
@[go_sem] theorem ty45_f2:fldOf Tryz.prog 45 2=(2,22):=by kernel_rfl
@[go_sem] theorem ty45_i2:isFld Tryz.prog 45 2=true:=by kernel_rfl
@[go_sem] theorem ty45_f3:fldOf Tryz.prog 45 3=(3,22):=by kernel_rfl
@[go_sem] theorem ty45_i3:isFld Tryz.prog 45 3=true:=by kernel_rfl
@[go_sem] theorem ty45_f4:fldOf Tryz.prog 45 4=(4,43):=by kernel_rfl
@[go_sem] theorem ty45_i4:isFld Tryz.prog 45 4=true:=by kernel_rfl
@[go_sem] theorem ty45_b:bldOk Tryz.prog 45=true:=by kernel_rfl
@[go_sem] theorem ty50_kd:kdOf Tryz.prog 50=Kd.sl 54:=by kernel_rfl
@[go_sem] theorem ty54_kd:kdOf Tryz.prog 54=Kd.st:=by kernel_rfl
@[go_sem] theorem ty54_sz:szOf Tryz.prog 54=21:=by kernel_rfl
@[go_sem] theorem ty54_by:byOf Tryz.prog 54=264:=by kernel_rfl
@[go_sem] theorem ty54_ok:tyok Tryz.prog 54=true:=by kernel_rfl
@[go_sem] theorem ty54_z:zeroOf Tryz.prog 54=[C.d (D.v (Value.int IntKind.u8 0)),C.d (D.v (Value.bool false)),C.nil,C.nil,C.d (D.v (Value.int IntKind.i64 0)),C.nil,C.d (D.v (Value.bool false)),C.d (D.v (Value.int IntKind.u8 0)),C.nil,C.nil,C.d (D.v (Value.int IntKind.u8 0)),C.d (D.v (Value.bool false)),C.d (D.v (Value.bool false)),C.nil,C.d (D.v (Value.bool false)),C.d (D.v (Value.bool false)),C.nil,C.d (D.v (Value.bool false)),C.d (D.v (Value.int IntKind.i64 0)),C.d (D.v (Value.bool false)),C.d (D.v (Value.int IntKind.i64 0))]:=by kernel_rfl
@[go_sem] theorem ty54_f0:fldOf Tryz.prog 54 0=(0,28):=by kernel_rfl
@[go_sem] theorem ty54_i0:isFld Tryz.prog 54 0=true:=by kernel_rfl
@[go_sem] theorem ty54_f1:fldOf Tryz.prog 54 1=(6,4):=by kernel_rfl
@[go_sem] theorem ty54_i1:isFld Tryz.prog 54 1=true:=by kernel_rfl
@[go_sem] theorem ty54_f2:fldOf Tryz.prog 54 2=(7,35):=by kernel_rfl
@[go_sem] theorem ty54_i2:isFld Tryz.prog 54 2=true:=by kernel_rfl
@[go_sem] theorem ty54_f3:fldOf Tryz.prog 54 3=(17,37):=by kernel_rfl
@[go_sem] theorem ty54_i3:isFld Tryz.prog 54 3=true:=by kernel_rfl
@[go_sem] theorem ty54_b:bldOk Tryz.prog 54=true:=by kernel_rfl
@[go_sem] theorem ty119_z:zeroOf Tryz.prog 119=[C.d (D.v (Value.int IntKind.i64 0)),C.d (D.v (Value.int IntKind.i64 0))]:=by kernel_rfl
@[go_sem] theorem ty119_f0:fldOf Tryz.prog 119 0=(0,3):=by kernel_rfl
@[go_sem] theorem ty119_i0:isFld Tryz.prog 119 0=true:=by kernel_rfl
@[go_sem] theorem ty119_f1:fldOf Tryz.prog 119 1=(1,3):=by kernel_rfl
@[go_sem] theorem ty119_i1:isFld Tryz.prog 119 1=true:=by kernel_rfl
@[go_sem] theorem ty119_b:bldOk Tryz.prog 119=true:=by kernel_rfl
@[go_sem] theorem ty146_kd:kdOf Tryz.prog 146=Kd.sl 9:=by kernel_rfl
@[go_sem] theorem ty148_kd:kdOf Tryz.prog 148=Kd.fn:=by kernel_rfl
@[go_sem] theorem ty148_ok:tyok Tryz.prog 148=true:=by kernel_rfl
@[go_sem] theorem ty155_kd:kdOf Tryz.prog 155=Kd.sl 24:=by kernel_rfl
@[go_sem] theorem ty164_kd:kdOf Tryz.prog 164=Kd.arr 6 9:=by kernel_rfl
@[go_sem] theorem ty164_sz:szOf Tryz.prog 164=6:=by kernel_rfl
@[go_sem] theorem ty164_ok:tyok Tryz.prog 164=true:=by kernel_rfl
@[go_sem] theorem ty164_z:zeroOf Tryz.prog 164=[C.d (D.v (Value.string { data:= #[] })),C.d (D.v (Value.string { data:= #[] })),C.d (D.v (Value.string { data:= #[] })),C.d (D.v (Value.string { data:= #[] })),C.d (D.v (Value.string { data:= #[] })),C.d (D.v (Value.string { data:= #[] }))]:=by kernel_rfl
@[go_sem] theorem ty164_b:bldOk Tryz.prog 164=true:=by kernel_rfl
@[go_sem] theorem ty188_kd:kdOf Tryz.prog 188=Kd.fn:=by kernel_rfl
@[go_sem] theorem ty188_ok:tyok Tryz.prog 188=true:=by kernel_rfl
@[go_sem] theorem ty210_kd:kdOf Tryz.prog 210=Kd.sl 3:=by kernel_rfl
@[go_sem] theorem ty213_kd:kdOf Tryz.prog 213=Kd.fn:=by kernel_rfl
@[go_sem] theorem fn16_ok:funcOk Tryz.prog 16=true:=by kernel_rfl
@[go_sem] theorem fn17_ok:funcOk Tryz.prog 17=true:=by kernel_rfl
@[go_sem] theorem fn18_ok:funcOk Tryz.prog 18=true:=by kernel_rfl
@[go_sem] theorem fn22_ok:funcOk Tryz.prog 22=true:=by kernel_rfl
@[go_sem] theorem fn24_ok:funcOk Tryz.prog 24=true:=by kernel_rfl
@[go_sem] theorem fn25_ok:funcOk Tryz.prog 25=true:=by kernel_rfl
@[go_sem] theorem fn26_ok:funcOk Tryz.prog 26=true:=by kernel_rfl
@[go_sem] theorem fn27_ok:funcOk Tryz.prog 27=true:=by kernel_rfl
@[go_sem] theorem fn28_ok:funcOk Tryz.prog 28=true:=by kernel_rfl
@[go_sem] theorem fn34_ok:funcOk Tryz.prog 34=true:=by kernel_rfl
@[go_sem] theorem fn35_ok:funcOk Tryz.prog 35=true:=by kernel_rfl
@[go_sem] theorem fn36_ok:funcOk Tryz.prog 36=true:=by kernel_rfl
@[go_sem] theorem fn37_ok:funcOk Tryz.prog 37=true:=by kernel_rfl
@[go_sem] theorem fn38_ok:funcOk Tryz.prog 38=true:=by kernel_rfl
@[go_sem] theorem fn39_ok:funcOk Tryz.prog 39=true:=by kernel_rfl
@[go_sem] theorem fn40_ok:funcOk Tryz.prog 40=true:=by kernel_rfl
@[go_sem] theorem fn41_ok:funcOk Tryz.prog 41=true:=by kernel_rfl
@[go_sem] theorem fn42_ok:funcOk Tryz.prog 42=true:=by kernel_rfl
@[go_sem] theorem fn43_ok:funcOk Tryz.prog 43=true:=by kernel_rfl
@[go_sem] theorem fn44_ok:funcOk Tryz.prog 44=true:=by kernel_rfl
@[go_sem] theorem fn46_ok:funcOk Tryz.prog 46=true:=by kernel_rfl
@[go_sem] theorem fn51_ok:funcOk Tryz.prog 51=true:=by kernel_rfl
@[go_sem] theorem fn52_ok:funcOk Tryz.prog 52=true:=by kernel_rfl
@[go_sem] theorem fn53_ok:funcOk Tryz.prog 53=true:=by kernel_rfl
@[go_sem] theorem fn54_ok:funcOk Tryz.prog 54=true:=by kernel_rfl
@[go_sem] theorem fn56_ok:funcOk Tryz.prog 56=true:=by kernel_rfl
@[go_sem] theorem fn57_ok:funcOk Tryz.prog 57=true:=by kernel_rfl
@[go_sem] theorem fn58_ok:funcOk Tryz.prog 58=true:=by kernel_rfl
@[go_sem] theorem fn59_ok:funcOk Tryz.prog 59=true:=by kernel_rfl
@[go_sem] theorem fn60_ok:funcOk Tryz.prog 60=true:=by kernel_rfl
@[go_sem] theorem fn61_ok:funcOk Tryz.prog 61=true:=by kernel_rfl
@[go_sem] theorem fn63_ok:funcOk Tryz.prog 63=true:=by kernel_rfl
@[go_sem] theorem fn64_ok:funcOk Tryz.prog 64=true:=by kernel_rfl
@[go_sem] theorem fn66_ok:funcOk Tryz.prog 66=true:=by kernel_rfl
@[go_sem] theorem fn67_ok:funcOk Tryz.prog 67=true:=by kernel_rfl
@[go_sem] theorem fn68_ok:funcOk Tryz.prog 68=true:=by kernel_rfl
@[go_sem] theorem fn73_ok:funcOk Tryz.prog 73=true:=by kernel_rfl
@[go_sem] theorem fn74_ok:funcOk Tryz.prog 74=true:=by kernel_rfl
@[go_sem] theorem fn75_ok:funcOk Tryz.prog 75=true:=by kernel_rfl
@[go_sem] theorem fn76_ok:funcOk Tryz.prog 76=true:=by kernel_rfl
@[go_sem] theorem fn77_ok:funcOk Tryz.prog 77=true:=by kernel_rfl
@[go_sem] theorem fn78_ok:funcOk Tryz.prog 78=true:=by kernel_rfl
@[go_sem] theorem fn79_ok:funcOk Tryz.prog 79=true:=by kernel_rfl
@[go_sem] theorem fn80_ok:funcOk Tryz.prog 80=true:=by kernel_rfl
@[go_sem] theorem fn81_ok:funcOk Tryz.prog 81=true:=by kernel_rfl
@[go_sem] theorem fn82_ok:funcOk Tryz.prog 82=true:=by kernel_rfl
@[go_sem] theorem fn84_ok:funcOk Tryz.prog 84=true:=by kernel_rfl
@[go_sem] theorem fn87_ok:funcOk Tryz.prog 87=true:=by kernel_rfl
@[go_sem] theorem fn88_ok:funcOk Tryz.prog 88=true:=by kernel_rfl
@[go_sem] theorem fn90_ok:funcOk Tryz.prog 90=true:=by kernel_rfl
@[go_sem] theorem fn91_ok:funcOk Tryz.prog 91=true:=by kernel_rfl
@[go_sem] theorem fn92_ok:funcOk Tryz.prog 92=true:=by kernel_rfl
@[go_sem] theorem fn94_ok:funcOk Tryz.prog 94=true:=by kernel_rfl
@[go_sem] theorem fn95_ok:funcOk Tryz.prog 95=true:=by kernel_rfl
@[go_sem] theorem fn96_ok:funcOk Tryz.prog 96=true:=by kernel_rfl
@[go_sem] theorem fn97_ok:funcOk Tryz.prog 97=true:=by kernel_rfl
@[go_sem] theorem fn98_ok:funcOk Tryz.prog 98=true:=by kernel_rfl
@[go_sem] theorem fn99_ok:funcOk Tryz.prog 99=true:=by kernel_rfl
@[go_sem] theorem fn100_ok:funcOk Tryz.prog 100=true:=by kernel_rfl
@[go_sem] theorem fn101_ok:funcOk Tryz.prog 101=true:=by kernel_rfl
@[go_sem] theorem fn103_ok:funcOk Tryz.prog 103=true:=by kernel_rfl
@[go_sem] theorem fn104_ok:funcOk Tryz.prog 104=true:=by kernel_rfl
@[go_sem] theorem fn105_ok:funcOk Tryz.prog 105=true:=by kernel_rfl
@[go_sem] theorem fn106_ok:funcOk Tryz.prog 106=true:=by kernel_rfl
@[go_sem] theorem fn107_ok:funcOk Tryz.prog 107=true:=by kernel_rfl
@[go_sem] theorem fn108_ok:funcOk Tryz.prog 108=true:=by kernel_rfl
@[go_sem] theorem fn109_ok:funcOk Tryz.prog 109=true:=by kernel_rfl
@[go_sem] theorem fn110_ok:funcOk Tryz.prog 110=true:=by kernel_rfl
@[go_sem] theorem fn111_ok:funcOk Tryz.prog 111=true:=by kernel_rfl
@[go_sem] theorem fn112_ok:funcOk Tryz.prog 112=true:=by kernel_rfl
@[go_sem] theorem fn113_ok:funcOk Tryz.prog 113=true:=by kernel_rfl
@[go_sem] theorem fn114_ok:funcOk Tryz.prog 114=true:=by kernel_rfl
@[go_sem] theorem fn115_ok:funcOk Tryz.prog 115=true:=by kernel_rfl
@[go_sem] theorem fn116_ok:funcOk Tryz.prog 116=true:=by kernel_rfl
@[go_sem] theorem fn117_ok:funcOk Tryz.prog 117=true:=by kernel_rfl
@[go_sem] theorem fn118_ok:funcOk Tryz.prog 118=true:=by kernel_rfl
@[go_sem] theorem fn119_ok:funcOk Tryz.prog 119=true:=by kernel_rfl
@[go_sem] theorem fn120_ok:funcOk Tryz.prog 120=true:=by kernel_rfl
@[go_sem] theorem fn121_ok:funcOk Tryz.prog 121=true:=by kernel_rfl
@[go_sem] theorem fn123_ok:funcOk Tryz.prog 123=true:=by kernel_rfl
@[go_sem] theorem fn124_ok:funcOk Tryz.prog 124=true:=by kernel_rfl
@[go_sem] theorem fn125_ok:funcOk Tryz.prog 125=true:=by kernel_rfl
@[go_sem] theorem fn126_ok:funcOk Tryz.prog 126=true:=by kernel_rfl
@[go_sem] theorem fn127_ok:funcOk Tryz.prog 127=true:=by kernel_rfl
@[go_sem] theorem fn128_ok:funcOk Tryz.prog 128=true:=by kernel_rfl
@[go_sem] theorem fn129_ok:funcOk Tryz.prog 129=true:=by kernel_rfl
@[go_sem] theorem fn130_ok:funcOk Tryz.prog 130=true:=by kernel_rfl
@[go_sem] theorem fn131_ok:funcOk Tryz.prog 131=true:=by kernel_rfl
@[go_sem] theorem fn132_ok:funcOk Tryz.prog 132=true:=by kernel_rfl
@[go_sem] theorem fn133_ok:funcOk Tryz.prog 133=true:=by kernel_rfl
@[go_sem] theorem fn134_ok:funcOk Tryz.prog 134=true:=by kernel_rfl
@[go_sem] theorem fn135_ok:funcOk Tryz.prog 135=true:=by kernel_rfl
@[go_sem] theorem fn136_ok:funcOk Tryz.prog 136=true:=by kernel_rfl
@[go_sem] theorem fn137_ok:funcOk Tryz.prog 137=true:=by kernel_rfl
@[go_sem] theorem fn138_ok:funcOk Tryz.prog 138=true:=by kernel_rfl
@[go_sem] theorem fn139_ok:funcOk Tryz.prog 139=true:=by kernel_rfl
@[go_sem] theorem fn140_ok:funcOk Tryz.prog 140=true:=by kernel_rfl
@[go_sem] theorem fn141_ok:funcOk Tryz.prog 141=true:=by kernel_rfl
@[go_sem] theorem fn142_ok:funcOk Tryz.prog 142=true:=by kernel_rfl
@[go_sem] theorem fn143_ok:funcOk Tryz.prog 143=true:=by kernel_rfl
@[go_sem] theorem fn144_ok:funcOk Tryz.prog 144=true:=by kernel_rfl
@[go_sem] theorem fn145_ok:funcOk Tryz.prog 145=true:=by kernel_rfl
@[go_sem] theorem fn146_ok:funcOk Tryz.prog 146=true:=by kernel_rfl
@[go_sem] theorem fn147_ok:funcOk Tryz.prog 147=true:=by kernel_rfl
@[go_sem] theorem fn148_ok:funcOk Tryz.prog 148=true:=by kernel_rfl
@[go_sem] theorem fn149_ok:funcOk Tryz.prog 149=true:=by kernel_rfl
@[go_sem] theorem fn150_ok:funcOk Tryz.prog 150=true:=by kernel_rfl
@[go_sem] theorem fn151_ok:funcOk Tryz.prog 151=true:=by kernel_rfl
@[go_sem] theorem fn152_ok:funcOk Tryz.prog 152=true:=by kernel_rfl
@[go_sem] theorem fn153_ok:funcOk Tryz.prog 153=true:=by kernel_rfl
@[go_sem] theorem fn154_ok:funcOk Tryz.prog 154=true:=by kernel_rfl
@[go_sem] theorem fn156_ok:funcOk Tryz.prog 156=true:=by kernel_rfl
@[go_sem] theorem fn159_ok:funcOk Tryz.prog 159=true:=by kernel_rfl
@[go_sem] theorem fn160_ok:funcOk Tryz.prog 160=true:=by kernel_rfl
@[go_sem] theorem fn161_ok:funcOk Tryz.prog 161=true:=by kernel_rfl
@[go_sem] theorem fn162_ok:funcOk Tryz.prog 162=true:=by kernel_rfl
@[go_sem] theorem fn163_ok:funcOk Tryz.prog 163=true:=by kernel_rfl
@[go_sem] theorem fn164_ok:funcOk Tryz.prog 164=true:=by kernel_rfl
@[go_sem] theorem fn165_ok:funcOk Tryz.prog 165=true:=by kernel_rfl
@[go_sem] theorem fn167_ok:funcOk Tryz.prog 167=true:=by kernel_rfl
@[go_sem] theorem fn168_ok:funcOk Tryz.prog 168=true:=by kernel_rfl
@[go_sem] theorem fn169_ok:funcOk Tryz.prog 169=true:=by kernel_rfl
@[go_sem] theorem fn170_ok:funcOk Tryz.prog 170=true:=by kernel_rfl
@[go_sem] theorem fn171_ok:funcOk Tryz.prog 171=true:=by kernel_rfl
@[go_sem] theorem fn172_ok:funcOk Tryz.prog 172=true:=by kernel_rfl
@[go_sem] theorem fn173_ok:funcOk Tryz.prog 173=true:=by kernel_rfl
@[go_sem] theorem fn174_ok:funcOk Tryz.prog 174=true:=by kernel_rfl
@[go_sem] theorem fn178_ok:funcOk Tryz.prog 178=true:=by kernel_rfl
@[go_sem] theorem fn179_ok:funcOk Tryz.prog 179=true:=by kernel_rfl
@[go_sem] theorem fn180_ok:funcOk Tryz.prog 180=true:=by kernel_rfl
@[go_sem] theorem fn181_ok:funcOk Tryz.prog 181=true:=by kernel_rfl
@[go_sem] theorem fn182_ok:funcOk Tryz.prog 182=true:=by kernel_rfl
@[go_sem] theorem fn185_ok:funcOk Tryz.prog 185=true:=by kernel_rfl
@[go_sem] theorem fn186_ok:funcOk Tryz.prog 186=true:=by kernel_rfl
@[go_sem] theorem fn193_ok:funcOk Tryz.prog 193=true:=by kernel_rfl
@[go_sem] theorem fn195_ok:funcOk Tryz.prog 195=true:=by kernel_rfl
@[go_sem] theorem fn197_ok:funcOk Tryz.prog 197=true:=by kernel_rfl
@[go_sem] theorem fn203_ok:funcOk Tryz.prog 203=true:=by kernel_rfl
@[go_sem] theorem fn205_ok:funcOk Tryz.prog 205=true:=by kernel_rfl
@[go_sem] theorem fn206_ok:funcOk Tryz.prog 206=true:=by kernel_rfl
@[go_sem] theorem fn207_ok:funcOk Tryz.prog 207=true:=by kernel_rfl
@[go_sem] theorem fn208_ok:funcOk Tryz.prog 208=true:=by kernel_rfl
@[go_sem] theorem fn209_ok:funcOk Tryz.prog 209=true:=by kernel_rfl
@[go_sem] theorem fn210_ok:funcOk Tryz.prog 210=true:=by kernel_rfl
@[go_sem] theorem fn211_ok:funcOk Tryz.prog 211=true:=by kernel_rfl
@[go_sem] theorem fn213_ok:funcOk Tryz.prog 213=true:=by kernel_rfl
@[go_sem] theorem fn214_ok:funcOk Tryz.prog 214=true:=by kernel_rfl
@[go_sem] theorem fn215_ok:funcOk Tryz.prog 215=true:=by kernel_rfl
@[go_sem] theorem fn216_ok:funcOk Tryz.prog 216=true:=by kernel_rfl
@[go_sem] theorem fn217_ok:funcOk Tryz.prog 217=true:=by kernel_rfl
@[go_sem] theorem fn221_ok:funcOk Tryz.prog 221=true:=by kernel_rfl
@[go_sem] theorem fn223_ok:funcOk Tryz.prog 223=true:=by kernel_rfl
@[go_sem] theorem fn224_ok:funcOk Tryz.prog 224=true:=by kernel_rfl
@[go_sem] theorem fn226_ok:funcOk Tryz.prog 226=true:=by kernel_rfl
@[go_sem] theorem fn227_ok:funcOk Tryz.prog 227=true:=by kernel_rfl
@[go_sem] theorem fn231_ok:funcOk Tryz.prog 231=true:=by kernel_rfl
@[go_sem] theorem fn232_ok:funcOk Tryz.prog 232=true:=by kernel_rfl
end Go.Proofs.YtfammdfpgccnfaaGreatDoor
namespace Go.Proofs.YtfammdfpgccnfaaGreatDoor
open Go.RowKit
section
variable {G:Nat→Option (List D)} {P:Program} {K:Ctx G} {F:Fr} {Q:Exit→FSt→Prop} {s:FSt} {m:NM} {a:Act} {w:World}
def NM.via (m:NM) (ρ:Nat→Nat):NM:=⟨fun r=>m.g (ρ r),fun r=>m.N (ρ r),fun r=>m.vd (ρ r)⟩
theorem RC.via {S:Nat→Prop} {dom dom':Nat→Prop} {ρ:Nat→Nat} {x:C} {u:Value} (h:RC w S m dom (x.ren ρ) u) (hn: ∀ r∈x.names,dom' r):RC w S (m.via ρ) dom' x u:=by
 cases x with
 | d x=>exact h
 | nil=>exact h
 | ptr r off=>exact ⟨hn r (by simp [C.names]),h.2⟩
 | row r sz off n cap=>exact ⟨hn r (by simp [C.names]),h.2⟩
 | fn f caps =>
  refine ⟨?_,fun p hp=>⟨hn _ (by simp only [C.names];exact List.mem_map_of_mem hp),(h.2 (ρ p.1,p.2) (List.mem_map_of_mem (f:=fun p:Nat × Nat=>(ρ p.1,p.2)) hp)).2⟩⟩
  rw [h.1]
  simp [NM.via,Function.comp_def]
theorem RA.via {S:Nat→Prop} {dom dom':Nat→Prop} {ρ:Nat→Nat} {x:AV} {u:Value} (h:RA w S m dom (x.ren ρ) u) (hn: ∀ r∈x.names,dom' r):RA w S (m.via ρ) dom' x u:=by
 cases x with
 | c x=>exact RC.via h hn
 | agg cs =>
  obtain ⟨us,e,hl,h⟩:=h
  refine ⟨us,e,by simpa using hl,fun i x v hx hv=>RC.via (h i (x.ren ρ) v ?_ hv) fun r hr=>hn r (by simp only [AV.names];exact List.mem_flatMap.2 ⟨x,List.mem_of_getElem? hx,hr⟩)⟩
  simp [hx]
theorem RS.via {S:Nat→Prop} {dom dom':Nat→Prop} {ρ:Nat→Nat} {x:SV} {u:Value} (h:RS w S m dom (x.ren ρ) u) (hn: ∀ r∈x.names,dom' r):RS w S (m.via ρ) dom' x u:=by
 cases x with
 | bot=>trivial
 | undef=>exact h
 | a x=>exact RA.via h hn
 | tup l =>
  obtain ⟨us,e,hl,h⟩:=h
  refine ⟨us,e,by simpa using hl,fun i x v hx hv=>RA.via (h i (x.ren ρ) v ?_ hv) fun r hr=>hn r (by simp only [SV.names];exact List.mem_flatMap.2 ⟨x,List.mem_of_getElem? hx,hr⟩)⟩
  simp [hx]
def objRen (ρ:Nat→Nat) (o:Option AObj):Option AObj:=o.map fun o=>⟨o.ty,o.cs.map (C.ren ρ),o.ex,o.fr⟩
structure LessR (ρ:Nat→Nat) (S:LSt) (s:FSt) (d0:Nat→Prop):Prop where
 sl: ∀ p∈S.sl,s.sl p.1=p.2.ren ρ
 ob: ∀ p∈S.ob,s.ob (ρ p.1)=some (objRen ρ p.2)
 inj:(S.ob.map fun p=>ρ p.1).Nodup
 sn: ∀ p∈S.sl,∀ r∈p.2.names,lkO S.ob r≠none
 on: ∀ p∈S.ob,∀ r∈objNames p.2,lkO S.ob r≠none
 d0: ∀ r,d0 r→lkO S.ob r≠none∧ρ r=r
theorem nodup_map_inj {α β:Type} {f:α→β}: ∀ {l:List α},(l.map f).Nodup→ ∀ x∈l,∀ y∈l,f x=f y→x=y
 | [],_,_,hx,_,_=>by cases hx
 | z::l,h,x,hx,y,hy=>by
  rw [List.map_cons,List.nodup_cons] at h
  intro e
  rcases List.mem_cons.1 hx with rfl|hx'<;>rcases List.mem_cons.1 hy with rfl|hy'
  ·rfl
  ·exact absurd (e▸List.mem_map_of_mem hy') h.1
  ·exact absurd (e▸List.mem_map_of_mem hx') h.1
  ·exact nodup_map_inj h.2 x hx' y hy' e
theorem Rel.lessR {ρ:Nat→Nat} {S:LSt} (h:Rel K F m s a w) (l:LessR ρ S s F.d0):Rel K F (m.via ρ) S.st a w:=by
 have hob: ∀ r o,lkO S.ob r=some o→s.ob (ρ r)=some (objRen ρ o):=fun r o ho=>l.ob _ (lkO_mem ho)
 have how: ∀ r,S.st.ob.own r→s.ob.own (ρ r):=fun r ⟨o,h1,h2⟩=>⟨_,hob _ _ h1,h2⟩
 have hv: ∀ b,Vis K m s.ob w b→Vis K (m.via ρ) S.st.ob w b:=fun b hb=>⟨hb.1,hb.2.1,fun r hr=>hb.2.2 _ (how r hr)⟩
 have hin: ∀ r r',S.st.ob.own r→S.st.ob.own r'→ρ r=ρ r'→r=r':=fun r r' ⟨o,h1,_⟩ ⟨o',h1',_⟩ e=>by
  have:=nodup_map_inj l.inj _ (lkO_mem h1) _ (lkO_mem h1') e
  injection this
 refine ⟨h.size,h.defers,fun t=>?_,⟨fun r o ho=>?_,fun r r' hr hr' hvr hvr' e=>hin r r' hr hr' (h.heap.dist _ _ (how r hr) (how r' hr') hvr hvr' e),fun r hr hvr=>h.heap.loc _ (how r hr) hvr,
  fun r o ho hf hvd=>hv _ (h.heap.fz _ _ (hob _ _ ho) hf hvd),h.heap.ev,fun g cs hg=>(h.heap.glob g cs hg).mono hv (fun _ _=>rfl)⟩,fun r hr=>⟨(l.d0 r hr).1,?_⟩⟩
 ·rcases lkS_mem (l:=S.sl) (t:=t) with e|e
  ·show RS w _ _ _ (lkS S.sl t) _
   rw [e]
   trivial
  ·have h1:=h.slot t
   rw [l.sl _ e] at h1
   exact (Keep.more hv).rs (RS.via h1 (l.sn _ e))
 ·have h0:=lkO_mem ho
  refine ⟨?_⟩
  rcases (h.heap.obj _ _ (hob _ _ ho)).row with ⟨h1,h2,h3⟩|⟨hvd,arr,h1,h2,h3,h4,h5⟩
  ·exact .inl ⟨h1,by simpa using h2,h3⟩
  ·refine .inr ⟨hvd,arr,h1,h2,fun he=>by simpa using h3 he,by simpa using h4,fun i x hx=>?_⟩
   obtain ⟨u,hu,hr⟩:=h5 i (x.ren ρ) (by simp [hx])
   exact ⟨u,hu,(Keep.more hv).rc (RC.via hr fun r hr=>l.on _ h0 r (by simp only [objNames];exact List.mem_flatMap.2 ⟨x,List.mem_of_getElem? hx,hr⟩))⟩
 ·have h1:=(h.names r hr).2
  have h2:=(l.d0 r hr).2
  exact ⟨by show m.g (ρ r)=_;rw [h2];exact h1.1,by show m.N (ρ r)=_;rw [h2];exact h1.2.1,by show m.vd (ρ r)=_;rw [h2];exact h1.2.2⟩
def renK:List (Nat × Nat)→Nat→Nat
 | [],r=>r
 | (a,b)::l,r=>if r=a then b else renK l r
def eqS (ρ:Nat→Nat) (f:Nat→SV):List (Nat × SV)→Prop
 | []=>True
 | (k,v)::l=>f k=v.ren ρ∧eqS ρ f l
def eqO (ρ:Nat→Nat) (H:Hp):List (Nat × Option AObj)→Prop
 | []=>True
 | (k,v)::l=>H (ρ k)=some (objRen ρ v)∧eqO ρ H l
def nmR (ob:List (Nat × Option AObj)) (r:Nat):Bool:=(lkO ob r).isSome
def nmC (ob:List (Nat × Option AObj)) (x:C):Prop:= ∀ r∈x.names,nmR ob r=true
def nmL (ob:List (Nat × Option AObj)) (l:List C):Prop:= ∀ x∈l,nmC ob x
def nmA (ob:List (Nat × Option AObj)):AV→Prop
 | .c x=>nmC ob x
 | .agg l=>nmL ob l
def nmT (ob:List (Nat × Option AObj)):List AV→Prop
 | []=>True
 | x::l=>nmA ob x∧nmT ob l
def nmS (ob:List (Nat × Option AObj)):List (Nat × SV)→Prop
 | []=>True
 | (_,.a x)::l=>nmA ob x∧nmS ob l
 | (_,.tup x)::l=>nmT ob x∧nmS ob l
 | (_,_)::l=>nmS ob l
def nmO (ob:List (Nat × Option AObj)):List (Nat × Option AObj)→Prop
 | []=>True
 | (_,some o)::l=>nmL ob o.cs∧nmO ob l
 | (_,none)::l=>nmO ob l
theorem nmR_ne {ob:List (Nat × Option AObj)} {r:Nat} (h:nmR ob r=true):lkO ob r≠none:=by
 intro e
 rw [nmR,e] at h
 cases h
theorem nmA_ok {ob:List (Nat × Option AObj)}: ∀ {x:AV},nmA ob x→ ∀ r∈x.names,lkO ob r≠none
 | .c x,h=>fun r hr=>nmR_ne (h r hr)
 | .agg l,h=>fun r hr=>by
  obtain ⟨x,hx,hr⟩:=List.mem_flatMap.1 hr
  exact nmR_ne (h x hx r hr)
theorem nmT_ok {ob:List (Nat × Option AObj)}: ∀ {l:List AV},nmT ob l→ ∀ r∈l.flatMap AV.names,lkO ob r≠none
 | [],h=>fun r hr=>by cases hr
 | x::l,h=>fun r hr=>by
  rw [List.flatMap_cons] at hr
  exact (List.mem_append.1 hr).elim (nmA_ok h.1 r) (nmT_ok h.2 r)
theorem nmS_ok {ob:List (Nat × Option AObj)}: ∀ {l:List (Nat × SV)},nmS ob l→ ∀ p∈l,∀ r∈p.2.names,lkO ob r≠none
 | [],_,_,hp=>by cases hp
 | (k,v)::l,h,p,hp=>by
  rcases List.mem_cons.1 hp with rfl|hp'
  ·cases v with
   | bot=>intro r hr;cases hr
   | undef=>intro r hr;cases hr
   | a x=>exact nmA_ok h.1
   | tup x=>exact nmT_ok h.1
  ·cases v with
   | bot=>exact nmS_ok (l:=l) h p hp'
   | undef=>exact nmS_ok (l:=l) h p hp'
   | a x=>exact nmS_ok h.2 p hp'
   | tup x=>exact nmS_ok h.2 p hp'
theorem nmO_ok {ob:List (Nat × Option AObj)}: ∀ {l:List (Nat × Option AObj)},nmO ob l→ ∀ p∈l,∀ r∈objNames p.2,lkO ob r≠none
 | [],_,_,hp=>by cases hp
 | (k, v) :: l, h, p,hp=>by
  rcases List.mem_cons.1 hp with rfl|hp'
  ·cases v with
   | none=>intro r hr;cases hr
   | some o=>exact fun r hr=>by
                 obtain ⟨x,hx,hr⟩:=List.mem_flatMap.1 hr
                 exact nmR_ne (h.1 x hx r hr)
  ·cases v with
   | none=>exact nmO_ok (l:=l) h p hp'
   | some o=>exact nmO_ok h.2 p hp'
def d0Ok (ρ:Nat→Nat) (F:Fr) (ob:List (Nat × Option AObj)):Prop:= ∀ r,F.d0 r→nmR ob r=true∧ρ r=r
def LessL (ρ:Nat→Nat) (S:LSt) (F:Fr) (s:FSt):Prop:=
 eqS ρ s.sl S.sl∧eqO ρ s.ob S.ob∧(S.ob.map fun p=>ρ p.1).Nodup∧nmS S.ob S.sl∧nmO S.ob S.ob∧d0Ok ρ F S.ob
theorem eqS_ok {ρ:Nat→Nat} {f:Nat→SV}: ∀ {l:List (Nat × SV)},eqS ρ f l→ ∀ p∈l,f p.1=p.2.ren ρ
 | [],_,_,hp=>by cases hp
 | (k,v)::l,h,p,hp=>by
  rcases List.mem_cons.1 hp with rfl|hp
  ·exact h.1
  ·exact eqS_ok h.2 p hp
theorem eqO_ok {ρ:Nat→Nat} {H:Hp}: ∀ {l:List (Nat × Option AObj)},eqO ρ H l→ ∀ p∈l,H (ρ p.1)=some (objRen ρ p.2)
 | [],_,_,hp=>by cases hp
 | (k,v)::l,h,p,hp=>by
  rcases List.mem_cons.1 hp with rfl|hp
  ·exact h.1
  ·exact eqO_ok h.2 p hp
theorem lessL_ok {ρ:Nat→Nat} {S:LSt} (h:LessL ρ S F s):LessR ρ S s F.d0:=
 ⟨eqS_ok h.1,eqO_ok h.2.1,h.2.2.1,nmS_ok h.2.2.2.1,nmO_ok h.2.2.2.2.1,fun r hr=>⟨nmR_ne (h.2.2.2.2.2 r hr).1,(h.2.2.2.2.2 r hr).2⟩⟩
theorem sound_lessR {c:Code} (S:LSt) (l:List (Nat × Nat)) (hl:LessL (renK l) S F s) (h:Sound P K F c Q S.st):Sound P K F c Q s:=fun m a w hr=>h _ a w (hr.lessR (lessL_ok hl))
theorem sound_loopR {c:Code} {X:Type} (S:X→LSt) (μ:X→Nat) (x0:X) (l:List (Nat × Nat)) (h0:LessL (renK l) (S x0) F s)
  (h: ∀ x,Sound P K F c (Then (fun s'=> ∃ l x',LessL (renK l) (S x') F s'∧μ x'<μ x) Q) (S x).st):Sound P K F (.loop c) Q s:=fun m a w hr=>by
 refine wp_loop_relR x0 (hr.lessR (lessL_ok h0)) h
where
 wp_loop_relR {c:Code} {X:Type} {S:X→LSt} {μ:X→Nat} {m:NM} {a:Act} {w:World} (x0:X) (h0:Rel K F m (S x0).st a w)
   (h: ∀ x,Sound P K F c (Then (fun s'=> ∃ l x',LessL (renK l) (S x') F s'∧μ x'<μ x) Q) (S x).st):(Code.loop c).wp P (Lift K F Q) a w:=by
  intro b k cs
  have key: ∀ n x m a w, μ x=n→Rel K F m (S x).st a w→ ∃ e a' w',Lift K F Q e a' w'∧Arrives P (lone (b.at a (.code c:: .inLoop c::k)) cs w) b k cs e a' w':=by
   intro n
   induction n using Nat.strongRecOn with
   | _ n ih =>
    intro x m a w hn hr
    obtain ⟨e,a₁,w₁,⟨m₁,s₁,hr₁,hq⟩,harr⟩:=h x m a w hr b (.inLoop c::k) cs
    cases e with
    | normal =>
     obtain ⟨l,x',hl,hlt⟩:=hq
     obtain ⟨e₂,a₂,w₂,hq₂,harr₂⟩:=ih (μ x') (hn▸hlt) x' _ a₁ w₁ rfl (hr₁.lessR (lessL_ok hl))
     exact ⟨e₂,a₂,w₂,hq₂,.of_steps (Steps.trans harr (.one step_inLoop)) harr₂⟩
    | exit id=>exact ⟨_,a₁,w₁,⟨m₁,s₁,hr₁,hq⟩,.pass (x:= .inLoop c) rfl (fun _ _=> .inl (by simp)) harr⟩
    | goto l=>exact ⟨_,a₁,w₁,⟨m₁,s₁,hr₁,hq⟩,.pass (x:= .inLoop c) rfl (fun _ _=> .inl (by simp)) harr⟩
    | ret=>exact ⟨_,a₁,w₁,⟨m₁,s₁,hr₁,hq⟩,.pass (x:= .inLoop c) rfl (fun _ _=> .inl (by simp)) harr⟩
    | panic ch=>exact ⟨_,a₁,w₁,⟨m₁,s₁,hr₁,hq⟩,.pass (x:= .inLoop c) rfl (fun _ _=> .inl (by simp)) harr⟩
    | outgrown=>exact ⟨_,a₁,w₁,⟨m₁,s₁,hr₁,hq⟩,.pass (x:= .inLoop c) rfl (fun _ _=> .inl (by simp)) harr⟩
  obtain ⟨e,a',w',hq,harr⟩:=key _ x0 m a w rfl h0
  exact ⟨e,a',w',hq,.of_steps (.one step_loop) harr⟩
theorem Rel.reslot {t:Nat} {v:SV} (h:Rel K F m s a w) (hv:RS w (Vis K m s.ob w) m s.ob.dom v (a.tmps.getD t undef)):Rel K F m ⟨upd s.sl t v,s.ob⟩ a w:=
 ⟨h.size,h.defers,fun t'=>by
  show RS w _ _ _ (upd s.sl t v t') _
  unfold upd
  split
  ·rename_i e
   rw [e]
   exact hv
  ·exact h.slot t',h.heap,h.names⟩
def voidO (e:TypeId):Option (Option AObj):=some (some ⟨e,[],false,false⟩)
theorem Rel.void {R:Nat} {e:TypeId} (h:Rel K F m s a w) (hf:s.ob R=none):Rel K F (m.set R 0 0 true) ⟨s.sl,upd s.ob R (voidO e)⟩ a w:=by
 have hne: ∀ r,s.ob.dom r→r≠R:=fun r hr e=>hr (by rw [e];exact hf)
 have t:Turn K m (m.set R 0 0 true) s.ob (upd s.ob R (voidO e)) w w (fun r=>r=R):=by
  refine ⟨fun r hr=>upd_ne hr,fun r hr=>?_,fun r hr=>(NM.set_other (hne r hr)).1,fun r hr=>(NM.set_other (hne r hr)).2.1,fun r hr=>(NM.set_other (hne r hr)).2.2,Ev.refl _ _,
   fun r hr _ hv=>?_,fun r r' hr hr' _ _ _ _ _=>hr.trans hr'.symm⟩
  ·show upd s.ob R _ r≠none
   rw [upd_ne (hne r hr)]
   exact hr
  ·subst hr
   rw [NM.set_same.2.2] at hv
   cases hv
 have hh:HRel K (m.set R 0 0 true) (upd s.ob R (voidO e)) w:=t.rel h.heap (fun r o hr ho=>by
   subst hr
   rw [upd_same] at ho
   injection ho with ho
   injection ho with ho
   subst ho
   exact ⟨.inl ⟨NM.set_same.2.2,rfl,rfl⟩⟩) (fun r o hr ho hf _=>by
   subst hr
   rw [upd_same] at ho
   injection ho with ho
   injection ho with ho
   subst ho
   cases hf)
 exact h.turn (dst:=none) (v:= .bot) (u:=undef) t hh (fun d hd=>by cases hd) trivial
theorem rc_void {R sz:Nat} {dom:Nat→Prop} {S:Nat→Prop} (hd:dom R):RC w S (m.set R 0 0 true) dom (.row R sz 0 0 .grow) (.slice none 0 0):=
 ⟨hd,none,0,rfl,Nat.le_refl _,by omega,rfl,.inl ⟨NM.set_same.2.2,rfl,rfl,rfl⟩⟩
theorem sound_void {c:Code} (t R sz:Nat) (e:TypeId) (h1:s.sl t= .a (.c .nil)) (h2:s.ob R=none) (h:Sound P K F c Q ⟨upd s.sl t (.a (.c (.row R sz 0 0 .grow))),upd s.ob R (voidO e)⟩):Sound P K F c Q s:=fun m a w hr=>by
 have hv:=hr.slot t
 rw [h1] at hv
 have hv:a.tmps.getD t undef= .slice none 0 0:=hv
 refine h _ a w (Rel.reslot (hr.void h2) ?_)
 rw [hv]
 exact (show RC w (Vis K (m.set R 0 0 true) (upd s.ob R (voidO e)) w) (m.set R 0 0 true) (Hp.dom (upd s.ob R (voidO e))) (.row R sz 0 0 .grow) (.slice none 0 0) from rc_void (by simp [Hp.dom,upd,voidO]))
theorem sound_voidC {c:Code} (r i R sz:Nat) (e:TypeId) {o:AObj} (h1:s.ob r=some (some o)) (hi:o.cs[i]?=some .nil) (hfr:o.fr=false) (h2:s.ob R=none)
  (h:Sound P K F c Q ⟨s.sl,upd (upd s.ob r (some (some { o with cs:=o.cs.set i (.row R sz 0 0 .grow) }))) R (voidO e)⟩):Sound P K F c Q s:=fun m a w hr=>by
 have hrR:r≠R:=fun e=>by rw [e,h2] at h1;cases h1
 have h9:=hr.void (e:=e) h2
 have ho:(upd s.ob R (voidO e)) r=some (some o):=by rw [upd_ne hrR];exact h1
 have hi':=(List.getElem?_eq_some_iff.1 hi).1
 refine h (m.set R 0 0 true) a w ?_
 rw [upd_comm (Ne.symm hrR)]
 generalize hm:m.set R 0 0 true=m' at *
 generalize hH:upd s.ob R (voidO e)=H at *
 have hvd:m'.vd r=false:=by
  rcases (h9.heap.obj r o ho).row with ⟨_,hcs,_⟩|⟨hv,_⟩
  ·rw [hcs] at hi'
   cases hi'
  ·exact hv
 have t:Turn K m' m' H (upd H r (some (some { o with cs:=o.cs.set i (.row R sz 0 0 .grow) }))) w w (fun x=>x=r):=by
  refine ⟨fun r' hr'=>upd_ne hr',fun r' hr'=>?_,fun _ _=>rfl,fun _ _=>rfl,fun _ _=>rfl,Ev.refl _ _,fun r' hr' ⟨o',h1,h2⟩ hv'=> .inl ⟨r,rfl,⟨o,ho,hfr⟩,hvd,by rw [hr']⟩,fun r1 r2 hr hr' _ _ _ _ _=>hr.trans hr'.symm⟩
  show upd H r _ r'≠none
  unfold upd
  split
  ·simp
  ·exact hr'
 have hdR:Hp.dom (upd H r (some (some { o with cs:=o.cs.set i (.row R sz 0 0 .grow) }))) R:=by
  show upd H r _ R≠none
  rw [upd_ne (Ne.symm hrR),← hH,upd_same]
  simp [voidO]
 have k:=t.keep h9.heap
 have hh : HRel K m' (upd H r (some (some { o with cs:=o.cs.set i (.row R sz 0 0 .grow) }))) w:=t.rel h9.heap (fun r' o' hr' ho'=>by
   subst hr'
   rw [upd_same] at ho'
   injection ho' with ho'
   injection ho' with ho'
   subst ho'
   rcases (h9.heap.obj r' o ho).row with ⟨hv,_⟩|⟨hv,arr,g1,g2,g3,g4,g5⟩
   ·rw [hvd] at hv
    cases hv
   ·refine ⟨.inr ⟨hv,arr,g1,g2,fun he=>by simpa using g3 he,by simpa using g4,fun j x hx=>?_⟩⟩
    by_cases hj:i=j
    ·subst hj
     obtain ⟨u,hu,hrc⟩:=g5 i _ hi
     have hu':u= .slice none 0 0:=hrc
     subst hu'
     have hx:(o.cs.set i (.row R sz 0 0 .grow))[i]?=some x:=hx
     rw [List.getElem?_set_self hi'] at hx
     injection hx with hx
     subst hx
     refine ⟨_,hu,?_⟩
     rw [← hm]
     exact rc_void hdR
    ·have hx:(o.cs.set i (.row R sz 0 0 .grow))[j]?=some x:=hx
     rw [List.getElem?_set_ne hj] at hx
     obtain ⟨u,hu,hrc⟩:=g5 j x hx
     exact ⟨u,hu,k.rc hrc⟩) (fun r' o' hr' ho' hf _=>by
   subst hr'
   rw [upd_same] at ho'
   injection ho' with ho'
   injection ho' with ho'
   subst ho'
   rw [show o.fr=true from hf] at hfr
   cases hfr)
 exact h9.turn (dst:=none) (v:= .bot) (u:=undef) t hh (fun d hd=>by cases hd) trivial
end
@[go_sem] theorem ba_list {x:List UInt8}:ByteArray.toList ⟨x.toArray⟩=x:=by simp [ByteArray.toList_eq]
theorem zI {y:List UInt8} {p:List UInt8→Prop} (h:p y): ∃ x:List UInt8,(x.length=y.length∧y.map bD=x.map bD)∧p x:=⟨y,⟨rfl,rfl⟩,h⟩
theorem spec_empty {G:Nat→Option (List D)} {P:Program} {f:FuncId} {pre post:List DV} {out:DR} (hp:out.plain=true) (h: ∀ A c,Spec P G f (pre++ .c (.v (.slice A 0 c))::post) out):Spec P G f (pre++ .c (.sl 0 [])::post) out:=by
 refine .mk0 hp ?_
 intro w S vs hS hT hA
 obtain ⟨hl,hc⟩:=hA
 have hlt:pre.length<vs.length:=by rw [hl];simp
 obtain ⟨A,c,hu,_⟩:=rd_sl (w:=w) (S:=S) (cs:=[]) (n:=0) (u:=vs[pre.length]) (hc pre.length (.c (.sl 0 [])) _ (by simp) (List.getElem?_eq_getElem hlt))
 refine (h A c).get0 hp w S vs hS hT ⟨by rw [hl];simp,fun i x v hx hv=>?_⟩
 by_cases hi:i=pre.length
 ·subst hi
  rw [List.getElem?_append_right (Nat.le_refl _),Nat.sub_self] at hx
  have hx:some (DV.c (.v (.slice A 0 c)))=some x:=hx
  injection hx with hx
  subst hx
  rw [List.getElem?_eq_getElem hlt,hu] at hv
  injection hv with hv
  subst hv
  exact .v _ rfl
 ·refine hc i x v ?_ hv
  rw [List.getElem?_append] at hx ⊢
  split at hx
  ·rename_i h1
   rw [if_pos h1]
   exact hx
  ·rename_i h1
   rw [if_neg h1]
   obtain ⟨j,hj⟩: ∃ j,i-pre.length=j+1:=⟨i-pre.length-1,by omega⟩
   rw [hj] at hx ⊢
   exact hx
attribute [go_sem] renK eqS eqO nmA nmT nmS nmO objRen SV.ren AV.ren C.ren voidO
section
variable {ob:List (Nat × Option AObj)} {ρ:Nat→Nat}
@[go_sem] theorem nmC_d {x:D}:nmC ob (.d x)=True:=by simp [nmC,C.names]
@[go_sem] theorem nmC_nil:nmC ob .nil=True:=by simp [nmC,C.names]
@[go_sem] theorem nmC_ptr {r off:Nat}:nmC ob (.ptr r off)=(nmR ob r=true):=by simp [nmC,C.names]
@[go_sem] theorem nmC_row {r sz off n:Nat} {cap:Cap}:nmC ob (.row r sz off n cap)=(nmR ob r=true):=by simp [nmC,C.names]
@[go_sem] theorem nmL_nil:nmL ob []=True:=by simp [nmL]
@[go_sem] theorem nmL_cons {x:C} {l:List C}:nmL ob (x::l)=(nmC ob x∧nmL ob l):=by simp [nmL]
@[go_sem] theorem nmL_app {l k:List C}:nmL ob (l++k)=(nmL ob l∧nmL ob k):=by simp [nmL,or_imp,forall_and]
@[go_sem] theorem nmL_mapd {l:List D}:nmL ob (l.map C.d)=True:=by simp [nmL,nmC,C.names]
@[go_sem] theorem ren_mapd {l:List D}:(l.map C.d).map (C.ren ρ)=l.map C.d:=by simp [C.ren]
@[go_sem] theorem ren_app {l k:List C}:(l++k).map (C.ren ρ)=l.map (C.ren ρ)++k.map (C.ren ρ):=by simp
@[go_sem] theorem nmR_in {r:Nat}:nmR ob r=(lkO ob r).isSome:=rfl
@[go_sem] theorem d0Ok_0 {n:Nat}:d0Ok ρ (Fr0 n) ob=True:=eq_true fun r h=>h.elim
@[go_sem] theorem d0Ok_O {n:Nat} {m:NM} {l:List Nat}:d0Ok ρ (FrO n m l) ob=(l.all (fun r=>nmR ob r&&ρ r==r)=true):=by
 rw [List.all_eq_true]
 simp [d0Ok,FrO]
@[go_sem] theorem lessL_eq {F:Fr} {s:FSt} {S:LSt}:LessL ρ S F s=(eqS ρ s.sl S.sl∧eqO ρ s.ob S.ob∧(S.ob.map fun p=>ρ p.1).Nodup∧nmS S.ob S.sl∧nmO S.ob S.ob∧d0Ok ρ F S.ob):=rfl
end
@[go_sem] theorem dOnly_map {l:List D}:dOnly (l.map C.d)=some l:=by
 induction l with
 | nil=>rfl
 | cons x l ih=>simp [dOnly,dOf,ih]
@[go_sem] theorem dOnly_append {a b:List C}:dOnly (a++b)=(dOnly a).bind fun x=>(dOnly b).map (x++ ·):=by
 induction a with
 | nil=>cases h:dOnly b<;>simp [dOnly,h]
 | cons y a ih =>
  show dOnly (y::(a++b))=_
  simp only [dOnly,ih]
  cases dOf y<;>cases dOnly a<;>cases dOnly b<;>rfl
theorem flat_len {α:Type} {f:α→List D} {n:Nat} (hf: ∀ x,(f x).length=n): ∀ l:List α,(l.flatMap f).length=l.length*n
 | []=>by simp
 | x::l=>by rw [List.flatMap_cons,List.length_append,hf,flat_len hf l,List.length_cons,Nat.add_mul];omega
theorem flat_at {α:Type} {f:α→List D} {n:Nat} (hf: ∀ x,(f x).length=n): ∀ {l:List α} {k:Nat} {x:α},l[k]?=some x→((l.flatMap f).drop (k*n)).take n=f x
 | [],k,x,h=>by simp at h
 | y::l,0,x,h=>by
  have h:y=x:=by simpa using h
  subst h
  simp [List.flatMap_cons,List.take_append,hf]
 | y::l,k+1,x,h=>by
  have h:l[k]?=some x:=by simpa using h
  rw [List.flatMap_cons,List.drop_append,List.drop_of_length_le (by rw [hf,Nat.add_mul];omega),List.nil_append,hf,show (k+1)*n-n=k*n by rw [Nat.add_mul];omega]
  exact flat_at hf h
theorem pos_beq {n:Nat}:decide ((0:Int)<(n:Int))= !(n==0):=by
 rw [Bool.eq_iff_iff]
 simp
 omega
theorem wrap8 {x:Int} (h0:0≤x) (h1:x≤255):IntKind.u8.wrap x=x:=by
 rw [IntKind.wrap_u8]
 omega
theorem max_r {a b:Int} (h:b≤a):(if b>a then b else a)=a:=by
 rw [if_neg (by omega)]
theorem max_l {a b:Int} (h:a<b):(if b>a then b else a)=b:=by
 rw [if_pos (by omega)]
theorem min_r {a b:Int} (h:a≤b):(if b<a then b else a)=a:=by
 rw [if_neg (by omega)]
theorem min_l {a b:Int} (h:b<a):(if b<a then b else a)=b:=by
 rw [if_pos (by omega)]
theorem wq:(∀ x:Int, -9223372036854775808≤x→x≤9223372036854775807→IntKind.i64.wrap x=x)∧(∀ x:Int,0≤x→x≤255→IntKind.u8.wrap x=x)∧(∀ a b:Int,b≤a→(if b>a then b else a)=a)∧(∀ a b:Int,a<b→(if b>a then b else a)=b)∧(∀ a b:Int,a≤b→(if b<a then b else a)=a)∧(∀ a b:Int,b<a→(if b<a then b else a)=b):=
 ⟨fun _=>wrap_id,fun _=>wrap8,fun _ _=>max_r,fun _ _=>max_l,fun _ _=>min_r,fun _ _=>min_l⟩
theorem ijq:(∀ a b,(SV.a a=SV.a b)=(a=b))∧(∀ a b,(AV.c a=AV.c b)=(a=b))∧(∀ a b,(C.d a=C.d b)=(a=b))∧(∀ a b,(D.v a=D.v b)=(a=b))∧(∀ k a j b,(Value.int k a=Value.int j b)=(k=j∧a=b))∧(∀ a b,(DR.one a=DR.one b)=(a=b))∧(∀ a b,(DV.c a=DV.c b)=(a=b)):=
 ⟨SV.a.injEq,AV.c.injEq,C.d.injEq,D.v.injEq,Value.int.injEq,DR.one.injEq,DV.c.injEq⟩
theorem rep_one {c:C}:(List.replicate 1 [c]).flatten=[c]:=rfl
attribute [go_sem] bne List.replicate_zero List.flatten_nil rep_one List.size_toArray
@[go_sem] def vI (n:Int):SV:= .a (.c (.d (.v (.int .i64 n))))
@[go_sem] def vB (b:Bool):SV:= .a (.c (.d (.v (.bool b))))
@[go_sem] def vD (x:D):SV:= .a (.c (.d x))
@[go_sem] def vP (r off:Nat):SV:= .a (.c (.ptr r off))
@[go_sem] def vR (r sz n:Nat):SV:= .a (.c (.row r sz 0 n .grow))
attribute [go_sem] List.getElem?_toArray Option.bind_eq_bind
attribute [go_sem] List.nodup_nil List.nodup_cons List.mem_cons List.not_mem_nil Option.isSome_some Option.isSome_none
attribute [go_sem] ownArgs renN callO svOf rawOf initA someO List.find?_cons List.find?_nil List.contains_cons List.contains_nil Option.getD_some Option.getD_none
section
variable {G:Nat→Option (List D)} {P:Program} {K:Ctx G} {F:Fr} {Qx:Exit→FSt→Prop} {s:FSt} {m:NM} {a:Act} {w:World}
def AObj.trim (o:AObj) (k:Nat):AObj:={ o with cs:=o.cs.take k,ex:=false }
theorem Rel.trim {r k:Nat} {o:AObj} (h:Rel K F m s a w) (ho:s.ob r=some (some o)):Rel K F m ⟨s.sl,upd s.ob r (some (some (o.trim k)))⟩ a w:=by
 obtain ⟨H,hH⟩: ∃ H:Hp,upd s.ob r (some (some (o.trim k)))=H:=⟨_,rfl⟩
 rw [hH]
 have hr:H r=some (some (o.trim k)):=by rw [← hH,upd_same]
 have hne: ∀ x,x≠r→H x=s.ob x:=fun x hx=>by rw [← hH,upd_ne hx]
 have hdom: ∀ x,s.ob.dom x→H.dom x:=fun x hx=>by
  by_cases e:x=r
  ·subst e
   simp [Hp.dom,hr]
  ·simpa [Hp.dom,hne x e] using hx
 have hown: ∀ x,H.own x→s.ob.own x:=fun x ⟨o',h1,h2⟩=>by
  by_cases e:x=r
  ·subst e
   rw [hr] at h1
   injection h1 with h1
   injection h1 with h1
   subst h1
   exact ⟨o,ho,h2⟩
  ·rw [hne x e] at h1
   exact ⟨o',h1,h2⟩
 have hv: ∀ b,Vis K m s.ob w b→Vis K m H w b:=fun b hb=>⟨hb.1,hb.2.1,fun x hx=>hb.2.2 x (hown x hx)⟩
 have kp:Keep w w (Vis K m s.ob w) (Vis K m H w) m m s.ob.dom H.dom:=⟨hv,fun _ _=>rfl,hdom,fun _ _=>rfl,fun _ _=>rfl,fun _ _=>rfl⟩
 refine ⟨h.size,h.defers,fun t=>kp.rs (h.slot t),⟨fun x o' hx=>?_,fun x y hx hy=>h.heap.dist x y (hown x hx) (hown y hy),fun x hx=>h.heap.loc x (hown x hx),fun x o' hx hf hvd=>?_,h.heap.ev,fun g cs hg=>(h.heap.glob g cs hg).mono hv (fun _ _=>rfl)⟩,fun x hx=>⟨hdom x (h.names x hx).1,(h.names x hx).2⟩⟩
 ·by_cases e:x=r
  ·subst e
   have hx:H x=some (some o'):=hx
   rw [hr] at hx
   injection hx with hx
   injection hx with hx
   subst hx
   refine ⟨?_⟩
   rcases (h.heap.obj x o ho).row with ⟨h1,h2,h3⟩|⟨h1,arr,h2,h3,h4,h5,h6⟩
   ·exact .inl ⟨h1,by simp [AObj.trim,h2],rfl⟩
   ·refine .inr ⟨h1,arr,h2,h3,(fun e=>by cases e),by simp only [AObj.trim,List.length_take];omega,fun i y hy=>?_⟩
    simp only [AObj.trim,List.getElem?_take] at hy
    split at hy
    ·obtain ⟨u,hu,hc⟩:=h6 i y hy
     exact ⟨u,hu,kp.rc hc⟩
    ·cases hy
  ·have hx:H x=some (some o'):=hx
   rw [hne x e] at hx
   refine ⟨?_⟩
   rcases (h.heap.obj x o' hx).row with h1|⟨h1,arr,h2,h3,h4,h5,h6⟩
   ·exact .inl h1
   ·exact .inr ⟨h1,arr,h2,h3,h4,h5,fun i y hy=>by
     obtain ⟨u,hu,hc⟩:=h6 i y hy
     exact ⟨u,hu,kp.rc hc⟩⟩
 ·by_cases e:x=r
  ·subst e
   have hx:H x=some (some o'):=hx
   rw [hr] at hx
   injection hx with hx
   injection hx with hx
   subst hx
   exact hv _ (h.heap.fz x o ho hf hvd)
  ·have hx:H x=some (some o'):=hx
   rw [hne x e] at hx
   exact hv _ (h.heap.fz x o' hx hf hvd)
theorem sound_trim {c:Code} (r k:Nat) {o:AObj} (ho:s.ob r=some (some o)) (h:Sound P K F c Qx ⟨s.sl,upd s.ob r (some (some (o.trim k)))⟩):Sound P K F c Qx s:=fun m a w hr=>h m a w (hr.trim ho)
theorem sound_grow {c:Code} (t r sz n k:Nat) {o:AObj} (h1:s.sl t= .a (.c (.row r sz 0 n (.ex k)))) (h2:s.ob r=some (some o)) (h3:o.ex=true) (h4:o.cs.length=k*sz) (h:Sound P K F c Qx ⟨upd s.sl t (.a (.c (.row r sz 0 n .grow))),s.ob⟩):Sound P K F c Qx s:=fun m a w hr=>by
 have hv:=hr.slot t
 rw [h1] at hv
 obtain ⟨hdm,A,c',hu,hnc,hcm,hcap⟩:=rs_row hv
 obtain ⟨rfl,hA⟩:=hcap
 obtain ⟨hvd,hA⟩:=hA (.inr rfl)
 obtain ⟨arr,g1,g2,g3,g4,g5⟩:=hr.obj h2 hvd
 refine h m a w (hr.reslot ?_)
 exact ⟨hdm,A,c',hu,hnc,hcm,rfl,.inr ⟨hvd,hA,by rw [← g2,g3 h3,h4]⟩⟩
def LoopU (P:Program) {G:Nat→Option (List D)} (K:Ctx G) (F:Fr) (c:Code) (Q:Exit→FSt→Prop):Nat→FSt→Prop
 | 0,_=>False
 | n+1,s=>Sound P K F c (Then (LoopU P K F c Q n) Q) s
theorem zJ {c:Code} {n:Nat} (h:Sound P K F c (Then (LoopU P K F c Qx n) Qx) s):LoopU P K F c Qx (n+1) s:=h
instance {c:Code} {n:Nat}:Nx (LoopU P K F c Qx (n+1) s) (Sound P K F c (Then (LoopU P K F c Qx n) Qx) s):=⟨fun h=>h⟩
theorem sound_loopN {c:Code} (n:Nat) (h:LoopU P K F c Qx n s):Sound P K F (.loop c) Qx s:=fun m a w hr=>by
 intro b k cs
 have key: ∀ n s m a w,LoopU P K F c Qx n s→Rel K F m s a w→ ∃ e a' w',Lift K F Qx e a' w'∧Arrives P (lone (b.at a (.code c:: .inLoop c::k)) cs w) b k cs e a' w':=by
  intro n
  induction n with
  | zero=>exact fun _ _ _ _ h=>h.elim
  | succ n ih =>
   intro s m a w h hr
   obtain ⟨e,a₁,w₁,⟨m₁,s₁,hr₁,hq⟩,harr⟩:=h m a w hr b (.inLoop c::k) cs
   cases e with
   | normal =>
    obtain ⟨e₂,a₂,w₂,hq₂,harr₂⟩:=ih s₁ m₁ a₁ w₁ hq hr₁
    exact ⟨e₂,a₂,w₂,hq₂,.of_steps (Steps.trans harr (.one step_inLoop)) harr₂⟩
   | exit id=>exact ⟨_,a₁,w₁,⟨m₁,s₁,hr₁,hq⟩,.pass (x:= .inLoop c) rfl (fun _ _=> .inl (by simp)) harr⟩
   | goto l=>exact ⟨_,a₁,w₁,⟨m₁,s₁,hr₁,hq⟩,.pass (x:= .inLoop c) rfl (fun _ _=> .inl (by simp)) harr⟩
   | ret=>exact ⟨_,a₁,w₁,⟨m₁,s₁,hr₁,hq⟩,.pass (x:= .inLoop c) rfl (fun _ _=> .inl (by simp)) harr⟩
   | panic ch=>exact ⟨_,a₁,w₁,⟨m₁,s₁,hr₁,hq⟩,.pass (x:= .inLoop c) rfl (fun _ _=> .inl (by simp)) harr⟩
   | outgrown=>exact ⟨_,a₁,w₁,⟨m₁,s₁,hr₁,hq⟩,.pass (x:= .inLoop c) rfl (fun _ _=> .inl (by simp)) harr⟩
 obtain ⟨e,a',w',hq,harr⟩:=key n s m a w h hr
 exact ⟨e,a',w',hq,.of_steps (.one step_loop) harr⟩
variable {H:Hp} {rs:List Nat} {Kc:List Nat→Out→Prop} {t e:TypeId} {xs ys:List C}
theorem run_agg_eql {b:Bool} {L1 L2:List Lit} (h1:eqTy P t=true) (h2:KeyL P t xs L1) (h3:KeyL P t ys L2) (h4:b=true↔L1=L2) (h:Kc rs (.val (vB b) [])):Q.run H rs Kc (aggQ P .eql t xs ys):=⟨(L1,L2),b,⟨h1,h2,h3,h4⟩,h⟩
theorem run_agg_neq {b:Bool} {L1 L2:List Lit} (h1:eqTy P t=true) (h2:KeyL P t xs L1) (h3:KeyL P t ys L2) (h4:b=true↔L1=L2) (h:Kc rs (.val (vB !b) [])):Q.run H rs Kc (aggQ P .neq t xs ys):=⟨(L1,L2),b,⟨h1,h2,h3,h4⟩,h⟩
end
section
variable {G:Nat→Option (List D)} {P:Program} {s:FSt} {rl:List ResultVar}
def obAt (H:Hp):List (Nat × Option AObj)→Prop
 | []=>True
 | (r,o)::l=>H r=some o∧obAt H l
theorem obAt_ok {H:Hp}: ∀ {l:List (Nat × Option AObj)},obAt H l→ ∀ p∈l,H p.1=some p.2
 | (r,o)::l,h,p,hp=>by
  rcases List.mem_cons.1 hp with rfl|hp
  ·exact h.1
  ·exact obAt_ok h.2 p hp
def rawQ (v:SV) (H':List (Nat × Option AObj)):List SV→Q:=fun vs=> .any Bool fun raw=>match raw with
 | true=> .need (rawOf vs=v∧vs.length=1∧ ∀ r∈v.names,lkO H' r≠none) (.done .bot [])
 | false=>cvArgs vs fun ds U=> .need (svOf ds=v∧offU H' U) (.done .bot [])
theorem zK {v:SV} {H':List (Nat × Option AObj)} (h:obAt s.ob H') (h2:(resQ P s.sl rl (rawQ v H')).run s.ob [] (fun _ _=>True)):RetO P rl (.ret v H') .ret s:=⟨obAt_ok h,h2⟩
theorem zL {v:SV} {H':List (Nat × Option AObj)} (h:obAt s.ob H') (h2:(resQ P s.sl rl (rawQ v H')).run s.ob [] (fun _ _=>True)):RetO P rl (.ret v H') .normal s:=⟨obAt_ok h,h2⟩
theorem raw_t {v:SV} {H':List (Nat × Option AObj)} {vs:List SV} {H:Hp} {rs:List Nat} (h:rawOf vs=v) (h1:vs.length=1) (h2:v.names.all (fun r=>(lkO H' r).isSome)=true):(rawQ v H' vs).run H rs (fun _ _=>True):=
 ⟨true,⟨h,h1,fun r hr=>by
  have:=List.all_eq_true.1 h2 r hr
  intro e
  rw [e] at this
  cases this⟩,trivial⟩
theorem raw_f {v:SV} {H':List (Nat × Option AObj)} {vs:List SV} {H:Hp} {rs:List Nat} (h:(cvArgs vs fun ds U=> .need (svOf ds=v∧offU H' U) (.done .bot [])).run H rs (fun _ _=>True)):(rawQ v H' vs).run H rs (fun _ _=>True):=⟨false,h⟩
theorem specO_go {f:FuncId} {fn:Func} {c:Code} {args:List AV} {H:List (Nat × AObj)} {out:OutO} {n:Nat} (hf:P.funcs[f]?=some fn) (hb:fn.body=some c) (hr:fn.results=⟨rl⟩) (hn:fn.ntmps=n) (ha:Nat.ble args.length n=true)
  (hd:hpOk out.hp) (hk:H.all (fun p=>(lkO out.hp p.1).isSome)=true)
  (h: ∀ (K:Ctx G) (m:NM),Sound P K (FrO n m (H.map (·.1))) c (RetO P rl out) ⟨lkS (initA 0 args),lkO (someO H)⟩):SpecO P G f args H out:=
 specO_of hf hb hr hn ha (hpOk_ok hd) (fun r hr e=>by
  obtain ⟨p,hp,rfl⟩:=List.mem_map.1 hr
  have:=List.all_eq_true.1 hk p hp
  rw [e] at this
  cases this) h
theorem int_beq {a b:Nat}:((a:Int)==(b:Int))=(a==b):=by
 rw [Bool.eq_iff_iff]
 simp only [beq_iff_eq]
 omega
theorem int_beqL {a b:Nat}:((a:Int)==(no_index (OfNat.ofNat b)))=(a==OfNat.ofNat b):=int_beq (b:=b)
theorem int_beq0 {n:Nat}:((n:Int)==0)=(n==0):=by
 rw [Bool.eq_iff_iff]
 simp
@[go_sem] theorem rep_2 {α:Type} {x:α}:List.replicate 2 x=[x,x]:=rfl
@[go_sem] theorem rep_3 {α:Type} {x:α}:List.replicate 3 x=[x,x,x]:=rfl
@[go_sem] theorem rep_6 {α:Type} {x:α}:List.replicate 6 x=[x,x,x,x,x,x]:=rfl
attribute [go_sem] Option.map_some Option.bind_some List.flatten_cons
theorem specO_empty {f:FuncId} {pre post:List AV} {H:List (Nat × AObj)} {out:OutO} (h: ∀ A c,SpecO P G f (pre++ .c (.d (.v (.slice A 0 c)))::post) H out):SpecO P G f (pre++ .c (.d (.sl 0 []))::post) H out:=by
 intro K m vs hS hB hH hl hc
 have hlt:pre.length<vs.length:=by rw [hl];simp
 have h0:RD K.w0 _ (.sl 0 []) vs[pre.length]:=hc pre.length (.c (.d (.sl 0 []))) _ (by simp) (List.getElem?_eq_getElem hlt)
 obtain ⟨A,c,hu,_⟩:=rd_sl h0
 refine h A c K m vs hS hB hH (by rw [hl];simp) fun i x v hx hv=>?_
 by_cases hi:i=pre.length
 ·subst hi
  rw [List.getElem?_append_right (Nat.le_refl _),Nat.sub_self] at hx
  have hx:some (AV.c (.d (.v (.slice A 0 c))))=some x:=hx
  injection hx with hx
  subst hx
  rw [List.getElem?_eq_getElem hlt,hu] at hv
  injection hv with hv
  subst hv
  exact RD.v _ rfl
 ·refine hc i x v ?_ hv
  rw [List.getElem?_append] at hx ⊢
  split at hx
  ·rename_i h1
   rw [if_pos h1]
   exact hx
  ·rename_i h1
   rw [if_neg h1]
   obtain ⟨j,hj⟩: ∃ j,i-pre.length=j+1:=⟨i-pre.length-1,by omega⟩
   rw [hj] at hx ⊢
   exact hx
attribute [go_sem] OutO.hp hpOk offN obAt offU List.map_nil
end
@[go_sem] def bytesD (l:List UInt8):D:= .sl l.length (l.map bD)
inductive Tree where
 | mk (list hinted:Bool) (hint data:List UInt8) (kids:List Tree)
def Tree.list:Tree→Bool| .mk l _ _ _ _=>l
def Tree.hinted:Tree→Bool| .mk _ h _ _ _=>h
def Tree.hint:Tree→List UInt8| .mk _ _ x _ _=>x
def Tree.data:Tree→List UInt8| .mk _ _ _ d _=>d
def Tree.kids:Tree→List Tree| .mk _ _ _ _ k=>k
theorem Tree.eta (t:Tree):t= .mk t.list t.hinted t.hint t.data t.kids:=by cases t;rfl
theorem Tree.kid_lt {t x:Tree} (h:x∈t.kids):SizeOf.sizeOf x<SizeOf.sizeOf t:=by
 cases t
 have:=List.sizeOf_lt_of_mem h
 simp only [Tree.kids] at this
 simp only [Tree.mk.sizeOf_spec]
 omega
theorem Tree.ind {P:Tree→Prop} (h: ∀ t,(∀ x∈t.kids,P x)→P t) (t:Tree):P t:=
 h t fun x hx=>Tree.ind h x
termination_by SizeOf.sizeOf t
decreasing_by exact Tree.kid_lt hx
def Tree.rd (w:World) (S:Nat→Prop) (cs:List Value) (t:Tree):Prop:=
 ∃ A1 n1 c1 A2 n2 c2 A3 n3 c3,cs=[.bool t.list,.bool t.hinted,.slice A1 n1 c1,.slice A2 n2 c2,.slice A3 n3 c3]∧Rep.u8.sl w S A1 n1 c1 t.hint∧Rep.u8.sl w S A2 n2 c2 t.data ∧
  t.kids.length=n3∧n3≤c3∧c3≤9223372036854775807∧(0<n3→ ∃ b o,A3=some ⟨b,o,none⟩∧S b ∧
   ∀ i x,(hx:t.kids[i]?=some x)→ ∃ es,Tree.rd w S es x∧ ∀ j u,es[j]?=some u→w.cell? ⟨b,o+i*5+j,none⟩=some u)
termination_by SizeOf.sizeOf t
decreasing_by exact Tree.kid_lt (List.mem_of_getElem? hx)
theorem Tree.rd_len {w:World} {S:Nat→Prop} {cs:List Value} {t:Tree} (h:Tree.rd w S cs t):cs.length=5:=by
 rw [Tree.rd] at h
 obtain ⟨_,_,_,_,_,_,_,_,_,rfl,_⟩:=h
 rfl
theorem Tree.rd_keep {w w':World} {S:Nat→Prop} (hk: ∀ p:Addr,S p.block→w'.cell? p=w.cell? p): ∀ (t:Tree) {cs:List Value},Tree.rd w S cs t→Tree.rd w' S cs t:=by
 refine Tree.ind fun t ih cs h=>?_
 rw [Tree.rd] at h ⊢
 obtain ⟨A1,n1,c1,A2,n2,c2,A3,n3,c3,rfl,h1,h2,h3,h4,h5,h6⟩:=h
 refine ⟨A1,n1,c1,A2,n2,c2,A3,n3,c3,rfl,Rep.sl_keep h1 hk,Rep.sl_keep h2 hk,h3,h4,h5,fun hn=>?_⟩
 obtain ⟨b,o,rfl,hb,hr⟩:=h6 hn
 refine ⟨b,o,rfl,hb,fun i x hx=>?_⟩
 obtain ⟨es,he,hc⟩:=hr i x hx
 exact ⟨es,ih x (List.mem_of_getElem? hx) he,fun j u hu=>by rw [hk _ hb];exact hc j u hu⟩
theorem Tree.rd_more {w:World} {S S':Nat→Prop} (hS: ∀ b,S b→S' b): ∀ (t:Tree) {cs:List Value},Tree.rd w S cs t→Tree.rd w S' cs t:=by
 refine Tree.ind fun t ih cs h=>?_
 rw [Tree.rd] at h ⊢
 obtain ⟨A1,n1,c1,A2,n2,c2,A3,n3,c3,rfl,h1,h2,h3,h4,h5,h6⟩:=h
 refine ⟨A1,n1,c1,A2,n2,c2,A3,n3,c3,rfl,Rep.sl_more h1 hS,Rep.sl_more h2 hS,h3,h4,h5,fun hn=>?_⟩
 obtain ⟨b,o,rfl,hb,hr⟩:=h6 hn
 refine ⟨b,o,rfl,hS _ hb,fun i x hx=>?_⟩
 obtain ⟨es,he,hc⟩:=hr i x hx
 exact ⟨es,ih x (List.mem_of_getElem? hx) he,hc⟩
def Rep.tree:Rep Tree where
 size:=5
 pos:=by omega
 rd:=Tree.rd
 len:=Tree.rd_len
 keep:=fun h hk=>Tree.rd_keep hk _ h
 more:=fun h hS=>Tree.rd_more hS _ h
 one:=fun h u hu=>by
  rw [Tree.rd] at h
  obtain ⟨_,_,_,_,_,_,_,_,_,rfl,_⟩:=h
  simp only [List.mem_cons,List.not_mem_nil,or_false] at hu
  rcases hu with rfl|rfl|rfl|rfl|rfl<;>rfl
def Parts (w:World) (S:Nat→Prop) (t:Tree) (A1:Option Addr) (n1 c1:Nat) (A2:Option Addr) (n2 c2:Nat) (A3:Option Addr) (n3 c3:Nat):Prop:=
 Rep.u8.sl w S A1 n1 c1 t.hint∧Rep.u8.sl w S A2 n2 c2 t.data∧Rep.tree.sl w S A3 n3 c3 t.kids
theorem Rep.tree_mk {w:World} {S:Nat→Prop} {t:Tree} {A1 A2 A3:Option Addr} {n1 c1 n2 c2 n3 c3:Nat} (h:Parts w S t A1 n1 c1 A2 n2 c2 A3 n3 c3) :
  Rep.tree.rd w S [.bool t.list,.bool t.hinted,.slice A1 n1 c1,.slice A2 n2 c2,.slice A3 n3 c3] t:=by
 show Tree.rd w S _ t
 rw [Tree.rd]
 exact ⟨A1,n1,c1,A2,n2,c2,A3,n3,c3,rfl,h.1,h.2.1,h.2.2.1,h.2.2.2.1,h.2.2.2.2.1,h.2.2.2.2.2⟩
def Tree.wt (t:Tree):Nat:=1+t.hint.length+t.data.length+(t.kids.attach.map fun x=>Tree.wt x.1).sum
termination_by SizeOf.sizeOf t
decreasing_by exact Tree.kid_lt x.2
theorem Tree.wt_eq (t:Tree):t.wt=1+t.hint.length+t.data.length+(t.kids.map Tree.wt).sum:=by
 rw [Tree.wt]
 congr 2
 simp
theorem sum_mem {l:List Tree} {x:Tree} (f:Tree→Nat) (h:x∈l):f x≤(l.map f).sum:=by
 induction l with
 | nil=>cases h
 | cons y l ih =>
  simp only [List.map_cons,List.sum_cons]
  rcases List.mem_cons.1 h with rfl|h
  ·omega
  ·have:=ih h;omega
theorem Tree.wt_kid {t x:Tree} (h:x∈t.kids):x.wt<t.wt:=by
 rw [Tree.wt_eq t]
 have:=sum_mem Tree.wt h
 omega
theorem Tree.wt_kids (t:Tree):t.kids.length≤t.wt:=by
 rw [Tree.wt_eq t]
 have: ∀ l:List Tree,l.length≤(l.map Tree.wt).sum:=by
  intro l
  induction l with
  | nil=>simp
  | cons y l ih =>
   have:1≤y.wt:=by rw [Tree.wt_eq];omega
   simp only [List.map_cons,List.sum_cons,List.length_cons]
   omega
 have:=this t.kids
 omega
theorem Tree.wt_hint (t:Tree):t.hint.length≤t.wt:=by rw [Tree.wt_eq];omega
theorem Tree.wt_data (t:Tree):t.data.length≤t.wt:=by rw [Tree.wt_eq];omega
end Go.Proofs.YtfammdfpgccnfaaGreatDoor
namespace Go.Proofs.YtfammdfpgccnfaaGreatDoor
def Tree.nodes (t:Tree):Nat:=1+(t.kids.attach.map fun x=>Tree.nodes x.1).sum
termination_by SizeOf.sizeOf t
decreasing_by exact Tree.kid_lt x.2
theorem Tree.nodes_eq (t:Tree):t.nodes=1+(t.kids.map Tree.nodes).sum:=by
 rw [Tree.nodes]
 congr 2
 simp
theorem Tree.nodes_wt: ∀ t:Tree,t.nodes≤t.wt:=Tree.ind fun t ih=>by
 rw [Tree.nodes_eq,Tree.wt_eq]
 have: ∀ l:List Tree,(∀ x∈l,x.nodes≤x.wt)→(l.map Tree.nodes).sum≤(l.map Tree.wt).sum:=by
  intro l
  induction l with
  | nil=>simp
  | cons x l ih =>
   intro h
   have h0:=h x (by simp)
   have:=ih fun y hy=>h y (by simp [hy])
   simp only [List.map_cons,List.sum_cons]
   omega
 have:=this t.kids ih
 omega
def Tree.fair (t:Tree):Bool:=if t.list then !t.hinted&&t.hint.length==0&&t.data.length==0 else t.kids.length==0&&(t.hinted||t.hint.length==0)
def Tree.clean (t:Tree):Bool:=t.fair&&t.kids.attach.all fun x=>Tree.clean x.1
termination_by SizeOf.sizeOf t
decreasing_by exact Tree.kid_lt x.2
theorem Tree.clean_eq (t:Tree):t.clean=(t.fair&&t.kids.all Tree.clean):=by
 rw [Tree.clean]
 congr 1
 simp
def most (l:List Nat):Nat:=l.foldl max 0
def Tree.deep (t:Tree):Nat:=if t.list then most (t.kids.attach.map fun x=>Tree.deep x.1)+1 else 0
termination_by SizeOf.sizeOf t
decreasing_by exact Tree.kid_lt x.2
theorem Tree.deep_eq (t:Tree):t.deep=if t.list then most (t.kids.map Tree.deep)+1 else 0:=by
 rw [Tree.deep]
 congr 2
 simp
theorem most_snoc (l:List Nat) (k:Nat):most (l++[k])=max (most l) k:=by simp [most]
theorem most_le {l:List Nat} {n:Nat}:most l≤n↔ ∀ k∈l,k≤n:=by
 have: ∀ (l:List Nat) (a:Nat),l.foldl max a≤n↔a≤n∧ ∀ k∈l,k≤n:=by
  intro l
  induction l with
  | nil=>simp
  | cons x l ih =>
   intro a
   rw [List.foldl_cons,ih]
   simp only [List.mem_cons,forall_eq_or_imp,Nat.max_le,and_assoc]
 have:=this l 0
 simpa [most] using this
theorem Tree.deep_wt: ∀ t:Tree,t.deep≤t.wt:=Tree.ind fun t ih=>by
 rw [Tree.deep_eq]
 split
 ·have:most (t.kids.map Tree.deep)≤t.wt-1:=most_le.2 fun k hk=>by
   obtain ⟨x,hx,rfl⟩:=List.mem_map.1 hk
   have h1:=ih x hx
   have h2:=Tree.wt_kid hx
   omega
  have:1≤t.wt:=by rw [Tree.wt_eq];omega
  omega
 ·omega
def dec (n:Nat):List UInt8:=if n<10 then [UInt8.ofNat (48+n)] else dec (n/10)++[UInt8.ofNat (48+n%10)]
theorem dec_len {n:Nat}: ∀ k,n<10^(k+1)→(dec n).length≤k+1:=by
 intro k
 induction k generalizing n with
 | zero =>
  intro h
  rw [dec,if_pos (by simpa using h)]
  simp
 | succ k ih =>
  intro h
  rw [dec]
  split
  ·simp
  ·rw [List.length_append,List.length_singleton]
   have:=ih (n:=n/10) (by rw [Nat.div_lt_iff_lt_mul (by omega)];rw [Nat.pow_succ] at h;omega)
   omega
theorem dec_pos (n:Nat):1≤(dec n).length:=by
 rw [dec]
 split<;>simp
def textB (b:List UInt8):List UInt8:=dec b.length++[58]++b
theorem textB_len {b:List UInt8} {n:Nat} (h:b.length≤n) (hn:n<100000000):(textB b).length≤n+9:=by
 have:=dec_len (n:=b.length) 7 (by simp only [Nat.reduceAdd,Nat.reducePow];omega)
 simp only [textB,List.length_append,List.length_singleton]
 omega
def Tree.atomF (t:Tree):List UInt8:=(if t.hinted then [91]++textB t.hint++[93] else [])++textB t.data
def Tree.form (t:Tree):List UInt8:=if t.list then [40]++(t.kids.attach.map fun x=>Tree.form x.1).flatten++[41] else t.atomF
termination_by SizeOf.sizeOf t
decreasing_by exact Tree.kid_lt x.2
theorem Tree.form_eq (t:Tree):t.form=if t.list then [40]++(t.kids.map Tree.form).flatten++[41] else t.atomF:=by
 rw [Tree.form]
 congr 3
 simp
theorem Tree.form_wt: ∀ t:Tree,t.wt≤30000000→t.form.length≤21*t.wt:=Tree.ind fun t ih=>by
 intro hw
 rw [Tree.form_eq]
 split
 ·have: ∀ l:List Tree,(∀ x∈l,x.form.length≤21*x.wt)→(l.map Tree.form).flatten.length≤21*(l.map Tree.wt).sum:=by
   intro l
   induction l with
   | nil=>simp
   | cons x l ih =>
    intro h
    have h0:=h x (by simp)
    have:=ih fun y hy=>h y (by simp [hy])
    simp only [List.map_cons,List.sum_cons,List.flatten_cons,List.length_append]
    omega
  have:=this t.kids fun x hx=>ih x hx (by have:=Tree.wt_kid hx;omega)
  rw [Tree.wt_eq]
  simp only [List.length_append,List.length_singleton]
  omega
 ·have h1:=textB_len (b:=t.hint) (Nat.le_refl _) (by have:=t.wt_hint;omega)
  have h2:=textB_len (b:=t.data) (Nat.le_refl _) (by have:=t.wt_data;omega)
  rw [Tree.wt_eq]
  unfold Tree.atomF
  split<;>simp only [List.length_append,List.length_singleton,List.length_nil]<;>omega
def Tree.may (t:Tree):Bool:=t.clean&&decide (t.nodes≤512)&&decide (t.deep≤16)&&decide (t.form.length≤4096)
noncomputable def Tree.same (t u:Tree):Bool:= @decide (t=u) (Classical.propDecidable _)
theorem Tree.ext_iff {t u:Tree}:t=u↔t.list=u.list∧t.hinted=u.hinted∧t.hint=u.hint∧t.data=u.data∧t.kids=u.kids:=by
 cases t
 cases u
 simp [Tree.list,Tree.hinted,Tree.hint,Tree.data,Tree.kids]
end Go.Proofs.YtfammdfpgccnfaaGreatDoor
namespace Go.Proofs.YtfammdfpgccnfaaGreatDoor
open Go.RowKit
def treeC (t:Tree):List D:=[.v (.bool t.list),.v (.bool t.hinted),bytesD t.hint,bytesD t.data,.sl t.kids.length (t.kids.attach.map fun x=>treeC x.1).flatten]
termination_by SizeOf.sizeOf t
decreasing_by exact Tree.kid_lt x.2
@[go_sem] def treeK (t:Tree):List C:=[.d (.v (.bool t.list)),.d (.v (.bool t.hinted)),.d (bytesD t.hint),.d (bytesD t.data),.d (.sl t.kids.length (t.kids.flatMap treeC))]
theorem treeC_eq (t:Tree):treeC t=[.v (.bool t.list),.v (.bool t.hinted),bytesD t.hint,bytesD t.data,.sl t.kids.length (t.kids.flatMap treeC)]:=by
 rw [treeC]
 simp [List.flatMap]
@[go_sem] theorem treeC_len (t:Tree):(treeC t).length=5:=by rw [treeC_eq];rfl
theorem treeC_mk (l h:Bool) (x d:List UInt8) (k:List Tree):treeC (.mk l h x d k)=[.v (.bool l),.v (.bool h),bytesD x,bytesD d,.sl k.length (k.flatMap treeC)]:=treeC_eq _
@[go_sem] theorem treeC_take (t:Tree):((treeC t).map C.d).take 5=(treeC t).map C.d:=List.take_of_length_le (by rw [List.length_map,treeC_len];exact Nat.le_refl _)
@[go_sem] theorem treeC_flen (l:List Tree):(l.flatMap treeC).length=l.length*5:=flat_len treeC_len l
theorem sum_at {α:Type} {l:List α} {k:Nat} {x:α} (f:α→Nat) (h:l[k]?=some x):((l.take (k+1)).map f).sum=((l.take k).map f).sum+f x:=by
 rw [List.take_add_one,h]
 simp
theorem sum_upto {α:Type} {l:List α} {k:Nat} (f:α→Nat):((l.take k).map f).sum≤(l.map f).sum:=by
 induction l generalizing k with
 | nil=>simp
 | cons x l ih =>
  cases k with
  | zero=>simp
  | succ k =>
   have:=ih (k:=k)
   simp only [List.take_succ_cons,List.map_cons,List.sum_cons]
   omega
theorem nodes_m {G:Nat→Option (List D)}: ∀ t:Tree,∀ cs:List D,treeC t=cs→t.wt≤1000000000→Spec Tryz.prog G 59 [.g cs] (.one (.c (.v (.int .i64 t.nodes)))):=Tree.ind fun t ih cs hcs hw=>by
 subst hcs
 refine spec_of Tryz.func59 rfl rfl rfl (by kernel_rfl) rfl fun K=>?_
 rw [treeC_eq]
 (repeat' (first|with_reducible (first|refine zA fun Kn hK=>?_|refine zU ?_|refine Nx.go ?_|go_step)|with_reducible refine zM (fun hb=>?_) (fun hb=>?_)<;>try simp only [hb]|simp (maxSteps:=9^9) -implicitDefEqProofs only [go_sem]))
 refine sound_loopR (fun x:{k:Nat // k≤t.kids.length}=>⟨[(1,vP 1 0),(3,vI (1+((t.kids.take x.1).map Tree.nodes).sum:Nat)),(7,vI t.kids.length),(8,vI x.1)],[(1,some ⟨45,treeK t,true,false⟩)]⟩) (fun x=>t.kids.length-x.1) ⟨0,by omega⟩ [] ?_ (fun ⟨k,hk⟩=>?_)
 ·simp (maxSteps:=9^9) -implicitDefEqProofs only [go_sem]
  simp
 by_cases hlt:k<t.kids.length
 ·obtain ⟨x,hx⟩: ∃ x,t.kids[k]?=some x:=⟨_,List.getElem?_eq_getElem hlt⟩
  have hb:decide ((k:Int)<(t.kids.length:Int))=true:=by simpa using hlt
  have h1:=sum_at Tree.nodes hx
  have h2:=sum_upto (l:=t.kids) (k:=k+1) Tree.nodes
  have h3:=t.nodes_wt
  have h4:=t.nodes_eq
  have h5:=t.wt_kids
  (repeat' (first|with_reducible (first|refine zA fun Kn hK=>?_|refine zU ?_|refine Nx.go ?_|go_step)|(refine ⟨_,ih x (List.mem_of_getElem? hx) _ rfl (by have:=Tree.wt_kid (List.mem_of_getElem? hx);omega),?_⟩)|with_reducible (first|refine zI ?_|refine zV ?_)|simp (maxSteps:=9^9) (disch:=omega) only [wq]|with_reducible refine zM (fun hb=>?_) (fun hb=>?_)<;>try simp only [hb]|with_reducible refine And.intro (by first|omega|(simp;done)|(simp;omega)) ?_|simp (maxSteps:=9^9) -implicitDefEqProofs only [go_sem,hb,flat_at treeC_len hx]))
  refine ⟨[],⟨k+1,hlt⟩,?_⟩
  (iterate 2 ((try simp (maxSteps:=9^9) -implicitDefEqProofs only [go_sem,hb]);(try simp (maxSteps:=9^9) (disch:=omega) only [wq])))
  (simp only [ijq,true_and,and_true];first|done|omega|(split<;>omega)|(simp;done)|(simp;omega))
 ·have hb:decide ((k:Int)<(t.kids.length:Int))=false:=by simpa using hlt
  obtain rfl:k=t.kids.length:=by omega
  (repeat' (first|with_reducible (first|refine zA fun Kn hK=>?_|refine zU ?_|refine Nx.go ?_|go_step)|with_reducible (first|refine zI ?_|refine zV ?_)|simp (maxSteps:=9^9) (disch:=omega) only [wq]|with_reducible refine zM (fun hb=>?_) (fun hb=>?_)<;>try simp only [hb]|with_reducible refine And.intro (by first|omega|(simp;done)|(simp;omega)) ?_|simp (maxSteps:=9^9) -implicitDefEqProofs only [go_sem,hb,List.take_length]))
  rw [t.nodes_eq]
theorem clean_m {G:Nat→Option (List D)}: ∀ t:Tree,∀ cs:List D,treeC t=cs→t.wt≤1000000000→Spec Tryz.prog G 73 [.g cs] (.one (.c (.v (.bool t.clean)))):=Tree.ind fun t ih cs hcs hw=>by
 subst hcs
 refine spec_of Tryz.func73 rfl rfl rfl (by kernel_rfl) rfl fun K=>?_
 rw [treeC_eq]
 refine zA fun Kn hK=>?_
 refine zU ?_
 (iterate 2 ((try simp (maxSteps:=9^9) -implicitDefEqProofs only [go_sem,true_and]);(try simp (maxSteps:=9^9) (disch:=omega) only [wq])))
 refine hK _ ?_;clear hK;clear Kn
 refine zA fun Kn hK=>?_
 have hL : t.fair=true→ ∀ s,LessL (renK []) ⟨[(1,vP 1 0)],[(1,some ⟨45,treeK t,true,false⟩)]⟩ (Fr0 Tryz.f73.ntmps) s→Kn s:=by
  intro hf s hl
  refine hK _ (sound_lessR _ _ hl ?_)
  clear hK hl
  (repeat' (first|with_reducible (first|refine zA fun Kn hK=>?_|refine zU ?_|refine Nx.go ?_|go_step)|with_reducible (first|refine zI ?_|refine zV ?_)|simp (maxSteps:=9^9) (disch:=omega) only [wq]|with_reducible refine zM (fun hb=>?_) (fun hb=>?_)<;>try simp only [hb]|with_reducible refine And.intro (by first|omega|(simp;done)|(simp;omega)) ?_|simp (maxSteps:=9^9) -implicitDefEqProofs only [go_sem,true_and]))
  refine sound_loopR (fun x:{k:Nat // k≤t.kids.length∧(t.kids.take k).all Tree.clean=true}=>⟨[(1,vP 1 0),(46,vI t.kids.length),(47,vI x.1)],[(1,some ⟨45,treeK t,true,false⟩)]⟩) (fun x=>t.kids.length-x.1) ⟨0,by simp⟩ [] (by simp (maxSteps:=9^9) -implicitDefEqProofs only [go_sem];simp) (fun ⟨k,hk,hall⟩=>?_)
  have h5:=t.wt_kids
  by_cases hlt:k<t.kids.length
  ·obtain ⟨x,hx⟩: ∃ x,t.kids[k]?=some x:=⟨_,List.getElem?_eq_getElem hlt⟩
   have hb:decide ((k:Int)<(t.kids.length:Int))=true:=by simpa using hlt
   have hm:=List.mem_of_getElem? hx
   (repeat' (first|with_reducible (first|refine zA fun Kn hK=>?_|refine zU ?_|refine Nx.go ?_|go_step)|(refine ⟨_,ih x hm _ rfl (by have:=Tree.wt_kid hm;omega),?_⟩)|with_reducible (first|refine zI ?_|refine zV ?_)|simp (maxSteps:=9^9) (disch:=omega) only [wq]|with_reducible refine zM (fun hb=>?_) (fun hb=>?_)<;>try simp only [hb]|with_reducible refine And.intro (by first|omega|(simp;done)|(simp;omega)) ?_|simp (maxSteps:=9^9) -implicitDefEqProofs only [go_sem,hb,flat_at treeC_len hx]))
   ·refine ⟨[],⟨k+1,hlt,?_⟩,?_⟩
    ·rw [List.take_add_one,hx]
     simp_all
    ·(iterate 2 ((try simp (maxSteps:=9^9) -implicitDefEqProofs only [go_sem,true_and]);(try simp (maxSteps:=9^9) (disch:=omega) only [wq])))
     (simp only [ijq,true_and,and_true];first|done|omega|(split<;>omega)|(simp;done)|(simp;omega))
   ·rw [t.clean_eq,hf]
    have:t.kids.all Tree.clean=false:=List.all_eq_false.2 ⟨x,hm,by simp_all⟩
    rw [this]
    rfl
  ·have hb:decide ((k:Int)<(t.kids.length:Int))=false:=by simpa using hlt
   obtain rfl:k=t.kids.length:=by omega
   (repeat' (first|with_reducible (first|refine zA fun Kn hK=>?_|refine zU ?_|refine Nx.go ?_|go_step)|with_reducible (first|refine zI ?_|refine zV ?_)|simp (maxSteps:=9^9) (disch:=omega) only [wq]|with_reducible refine zM (fun hb=>?_) (fun hb=>?_)<;>try simp only [hb]|with_reducible refine And.intro (by first|omega|(simp;done)|(simp;omega)) ?_|simp (maxSteps:=9^9) -implicitDefEqProofs only [go_sem,hb]))
   rw [List.take_length] at hall
   rw [t.clean_eq,hf,hall]
   rfl
 clear hK
 (repeat' (first|with_reducible (first|refine zA fun Kn hK=>?_|refine zU ?_|refine Nx.go ?_|go_step)|(refine hL (by rw [Tree.fair];simp only [*];rfl) _ ?_)|with_reducible (first|refine zI ?_|refine zV ?_)|simp (maxSteps:=9^9) (disch:=omega) only [wq]|with_reducible refine zM (fun hb=>?_) (fun hb=>?_)<;>try simp only [hb]|with_reducible refine And.intro (by first|omega|(simp;done)|(simp;omega)) ?_|simp (maxSteps:=9^9) -implicitDefEqProofs only [go_sem,gt_iff_lt,pos_beq]))
 all_goals (clear ih;first|(simp only [*];done)|(rw [t.clean_eq,Tree.fair];simp only [*];rfl)|(rw [t.clean_eq,Tree.fair];simp only [*];simp;done))
def digit (n:Nat):UInt8:=UInt8.ofNat (48+n%10)
theorem digit_D (n:Nat):bD (digit n)= .v (.int .u8 (48+((n%10:Nat):Int))):=by
 unfold bD digit
 rw [UInt8.toNat_ofNat']
 congr 2
 omega
theorem dec_small {n:Nat} (h:n<10):dec n=[digit n]:=by
 rw [dec,if_pos h,digit,Nat.mod_eq_of_lt h]
theorem dec_big {n:Nat} (h: ¬ n<10):dec n=dec (n/10)++[digit n]:=by
 rw [dec,if_neg h,digit]
theorem str_app (x y:List UInt8):(⟨x.toArray⟩:ByteArray)++⟨y.toArray⟩=⟨(x++y).toArray⟩:=by
 ext1
 simp [ByteArray.data_append]
theorem str_size (x:List UInt8):(⟨x.toArray⟩:ByteArray).size=x.length:=by simp [ByteArray.size]
theorem dec_m {G:Nat→Option (List D)}: ∀ n:Nat,n≤1000000000→Spec Tryz.prog G 90 [.c (.v (.int .i64 n))] (.one (.c (.v (.string ⟨(dec n).toArray⟩)))):=by
 intro n
 induction n using Nat.strongRecOn with
 | _ n ih =>
 intro hn
 refine spec_of Tryz.func90 rfl rfl rfl (by kernel_rfl) rfl fun K=>?_
 by_cases h10:n<10
 ·have d1:decide ((n:Int)<10)=true:=decide_eq_true (by omega)
  have d2:n%10=n:=Nat.mod_eq_of_lt h10
  (repeat' (first|with_reducible (first|refine zA fun Kn hK=>?_|refine zU ?_|refine Nx.go ?_|go_step)|(refine ⟨[digit n],?_⟩)|with_reducible (first|refine zI ?_|refine zV ?_)|simp (maxSteps:=9^9) (disch:=omega) only [wq]|with_reducible refine zM (fun hb=>?_) (fun hb=>?_)<;>try simp only [hb]|with_reducible refine And.intro (by first|omega|(simp;done)|(simp;omega)) ?_|simp (maxSteps:=9^9) -implicitDefEqProofs only [go_sem,d1,digit_D,d2]))
  rw [dec_small h10]
 ·have d1:decide ((n:Int)<10)=false:=decide_eq_false (by omega)
  have d2:(n:Int).tdiv 10=((n/10:Nat):Int):=by rw [Int.tdiv_eq_ediv_of_nonneg (by omega)];omega
  have d3:(n:Int).tmod 10=((n%10:Nat):Int):=by rw [Int.tmod_eq_emod_of_nonneg (by omega)];omega
  have hl:=dec_len (n:=n/10) 9 (by simp only [Nat.reduceAdd,Nat.reducePow];omega)
  (repeat' (first|with_reducible (first|refine zA fun Kn hK=>?_|refine zU ?_|refine Nx.go ?_|go_step)|(refine ⟨_,ih (n/10) (by omega) (by omega),?_⟩)|(refine ⟨[digit n],?_⟩)|with_reducible (first|refine zI ?_|refine zV ?_)|simp (maxSteps:=9^9) (disch:=omega) only [wq]|with_reducible refine zM (fun hb=>?_) (fun hb=>?_)<;>try simp only [hb]|with_reducible refine And.intro (by first|omega|(simp;done)|(simp;omega)) ?_|simp (maxSteps:=9^9) -implicitDefEqProofs only [go_sem,d1,d2,d3,digit_D]))
  rw [dec_big h10,str_app]
end Go.Proofs.YtfammdfpgccnfaaGreatDoor
namespace Go.Proofs.YtfammdfpgccnfaaGreatDoor
def atomT (s:List UInt8):Tree:= .mk false false [] s []
def listT (l:List Tree):Tree:= .mk true false [] [] l
def isB (t:Tree) (s:List UInt8):Bool:= !t.list&& !t.hinted&&(t.data==s)
def headB (t:Tree) (s:List UInt8):Bool:=t.list&&(match t.kids with
 | []=>false
 | x::_=>isB x s)
theorem fair_atomT {t:Tree} (h:t.fair=true) (hl:t.list=false) (hh:t.hinted=false):t=atomT t.data:=by
 rw [Tree.fair,hl,hh] at h
 simp at h
 rw [Tree.eta t,hl,hh]
 simp [atomT,h,Tree.data]
theorem fair_listT {t:Tree} (h:t.fair=true) (hl:t.list=true):t=listT t.kids:=by
 rw [Tree.fair,hl] at h
 simp at h
 rw [Tree.eta t,hl]
 simp [listT,h,Tree.kids]
theorem isB_iff {t:Tree} {s:List UInt8} (h:t.fair=true):isB t s=true↔t=atomT s:=by
 constructor
 ·intro hi
  simp [isB] at hi
  obtain ⟨⟨h1,h2⟩,h3⟩:=hi
  rw [fair_atomT h h1 h2,h3]
 ·rintro rfl
  simp [isB,atomT,Tree.list,Tree.hinted,Tree.data]
end Go.Proofs.YtfammdfpgccnfaaGreatDoor
namespace Go.Proofs.YtfammdfpgccnfaaGreatDoor
open Go.RowKit
theorem bclone_m {G:Nat→Option (List D)} (l:List UInt8) (hl:l.length≤1000000000000):Spec Tryz.prog G 104 [.c (bytesD l)] (.one (.c (bytesD l))):=by
 cases l with
 | nil =>
  refine spec_empty (pre:=[]) (post:=[]) rfl fun A c=>?_
  refine spec_of Tryz.func104 rfl rfl rfl (by kernel_rfl) rfl fun K=>?_
  cases A<;>(repeat' (first|with_reducible (first|refine zA fun Kn hK=>?_|refine zU ?_|refine Nx.go ?_|go_step)|with_reducible (first|refine zI ?_|refine zV ?_)|simp (maxSteps:=9^9) (disch:=omega) only [wq]|with_reducible refine zM (fun hb=>?_) (fun hb=>?_)<;>try simp only [hb]|with_reducible refine And.intro (by first|omega|(simp;done)|(simp;omega)) ?_|simp (maxSteps:=9^9) -implicitDefEqProofs only [go_sem,true_and]))
 | cons x l =>
  generalize hn:x::l=k at *
  have h0:0<k.length:=by rw [← hn];simp
  refine spec_of Tryz.func104 rfl rfl rfl (by kernel_rfl) rfl fun K=>?_
  (repeat' (first|with_reducible (first|refine zA fun Kn hK=>?_|refine zU ?_|refine Nx.go ?_|go_step)|with_reducible (first|refine zI ?_|refine zV ?_)|simp (maxSteps:=9^9) (disch:=omega) only [wq]|with_reducible refine zM (fun hb=>?_) (fun hb=>?_)<;>try simp only [hb]|with_reducible refine And.intro (by first|omega|(simp;done)|(simp;omega)) ?_|simp (maxSteps:=9^9) -implicitDefEqProofs only [go_sem,List.length_map]))
theorem sclone_m {G:Nat→Option (List D)} (l:List Tree) (hl:l.length≤100000000):Spec Tryz.prog G 94 [.c (.sl l.length (l.flatMap treeC))] (.one (.c (.sl l.length (l.flatMap treeC)))):=by
 cases l with
 | nil =>
  refine spec_empty (pre:=[]) (post:=[]) rfl fun A c=>?_
  refine spec_of Tryz.func94 rfl rfl rfl (by kernel_rfl) rfl fun K=>?_
  cases A<;>(repeat' (first|with_reducible (first|refine zA fun Kn hK=>?_|refine zU ?_|refine Nx.go ?_|go_step)|with_reducible (first|refine zI ?_|refine zV ?_)|simp (maxSteps:=9^9) (disch:=omega) only [wq]|with_reducible refine zM (fun hb=>?_) (fun hb=>?_)<;>try simp only [hb]|with_reducible refine And.intro (by first|omega|(simp;done)|(simp;omega)) ?_|simp (maxSteps:=9^9) -implicitDefEqProofs only [go_sem,true_and,List.flatMap_nil]))
 | cons x l =>
  generalize hn:x::l=k at *
  have h0:0<k.length:=by rw [← hn];simp
  refine spec_of Tryz.func94 rfl rfl rfl (by kernel_rfl) rfl fun K=>?_
  (repeat' (first|with_reducible (first|refine zA fun Kn hK=>?_|refine zU ?_|refine Nx.go ?_|go_step)|with_reducible (first|refine zI ?_|refine zV ?_)|simp (maxSteps:=9^9) (disch:=omega) only [wq]|with_reducible refine zM (fun hb=>?_) (fun hb=>?_)<;>try simp only [hb]|with_reducible refine And.intro (by first|omega|(simp;done)|(simp;omega)) ?_|simp (maxSteps:=9^9) -implicitDefEqProofs only [go_sem,List.length_map]))
theorem equal_m {G:Nat→Option (List D)} (x y:List UInt8):Spec Tryz.prog G 39 [.c (bytesD x),.c (bytesD y)] (.one (.c (.v (.bool (x==y))))):=by
 refine spec_of Tryz.func39 rfl rfl rfl (by kernel_rfl) rfl fun K=>?_
 (repeat' (first|with_reducible (first|refine zA fun Kn hK=>?_|refine zU ?_|refine Nx.go ?_|go_step)|with_reducible (first|refine zI ?_|refine zV ?_)|simp (maxSteps:=9^9) (disch:=omega) only [wq]|with_reducible refine zM (fun hb=>?_) (fun hb=>?_)<;>try simp only [hb]|with_reducible refine And.intro (by first|omega|(simp;done)|(simp;omega)) ?_|simp (maxSteps:=9^9) -implicitDefEqProofs only [go_sem,true_and]))
theorem atom_m {G:Nat→Option (List D)} (l:List UInt8) (hl:l.length≤1000000000000):Spec Tryz.prog G 52 [.c (.v (.string ⟨l.toArray⟩))] (.one (.g (treeC (.mk false false [] l [])))):=by
 refine spec_of Tryz.func52 rfl rfl rfl (by kernel_rfl) rfl fun K=>?_
 rw [treeC_eq]
 (repeat' (first|with_reducible (first|refine zA fun Kn hK=>?_|refine zU ?_|refine Nx.go ?_|go_step)|with_reducible (first|refine zI ?_|refine zV ?_)|simp (maxSteps:=9^9) (disch:=omega) only [wq]|with_reducible refine zM (fun hb=>?_) (fun hb=>?_)<;>try simp only [hb]|with_reducible refine And.intro (by first|omega|(simp;done)|(simp;omega)) ?_|simp (maxSteps:=9^9) -implicitDefEqProofs only [go_sem,str_size]))
 rfl
theorem list_m {G:Nat→Option (List D)} (l:List Tree) (hl:l.length≤100000000):Spec Tryz.prog G 51 [.c (.sl l.length (l.flatMap treeC))] (.one (.g (treeC (.mk true false [] [] l)))):=by
 refine spec_of Tryz.func51 rfl rfl rfl (by kernel_rfl) rfl fun K=>?_
 rw [treeC_eq]
 (repeat' (first|with_reducible (first|refine zA fun Kn hK=>?_|refine zU ?_|refine Nx.go ?_|go_step)|refine ⟨_,sclone_m l hl,?_⟩|with_reducible (first|refine zI ?_|refine zV ?_)|simp (maxSteps:=9^9) (disch:=omega) only [wq]|with_reducible refine zM (fun hb=>?_) (fun hb=>?_)<;>try simp only [hb]|with_reducible refine And.intro (by first|omega|(simp;done)|(simp;omega)) ?_|simp (maxSteps:=9^9) -implicitDefEqProofs only [go_sem,true_and]))
 rfl
theorem isref_m {G:Nat→Option (List D)} (t:Tree) {cs:List D} (hcs:treeC t=cs) (s:List UInt8):Spec Tryz.prog G 77 [.g cs,.c (.v (.string ⟨s.toArray⟩))] (.one (.c (.v (.bool (isB t s))))):=by
 subst hcs
 refine spec_of Tryz.func77 rfl rfl rfl (by kernel_rfl) rfl fun K=>?_
 rw [treeC_eq]
 (repeat' (first|with_reducible (first|refine zA fun Kn hK=>?_|refine zU ?_|refine Nx.go ?_|go_step)|with_reducible (first|refine zI ?_|refine zV ?_)|simp (maxSteps:=9^9) (disch:=omega) only [wq]|with_reducible refine zM (fun hb=>?_) (fun hb=>?_)<;>try simp only [hb]|with_reducible refine And.intro (by first|omega|(simp;done)|(simp;omega)) ?_|simp (maxSteps:=9^9) -implicitDefEqProofs only [go_sem,true_and]))
 all_goals (unfold isB;simp only [*];first|rfl|simp)
theorem headref_m {G:Nat→Option (List D)} (t:Tree) {cs:List D} (hcs:treeC t=cs) (s:List UInt8):Spec Tryz.prog G 37 [.g cs,.c (.v (.string ⟨s.toArray⟩))] (.one (.c (.v (.bool (headB t s))))):=by
 subst hcs
 refine spec_of Tryz.func37 rfl rfl rfl (by kernel_rfl) rfl fun K=>?_
 rw [treeC_eq]
 cases hk:t.kids with
 | nil =>
  have h0:decide ((0:Int)<((0:Nat):Int))=false:=rfl
  (repeat' (first|with_reducible (first|refine zA fun Kn hK=>?_|refine zU ?_|refine Nx.go ?_|go_step)|with_reducible (first|refine zI ?_|refine zV ?_)|simp (maxSteps:=9^9) (disch:=omega) only [wq]|with_reducible refine zM (fun hb=>?_) (fun hb=>?_)<;>try simp only [hb]|with_reducible refine And.intro (by first|omega|(simp;done)|(simp;omega)) ?_|simp (maxSteps:=9^9) -implicitDefEqProofs only [go_sem,gt_iff_lt,h0]))
  all_goals (unfold headB;simp only [*];rfl)
 | cons x l =>
  have h0:decide ((0:Int)<((l.length+1:Nat):Int))=true:=by simp
  have h1:((x::l).flatMap treeC).take 5=treeC x:=flat_at treeC_len (k:=0) rfl
  (repeat' (first|with_reducible (first|refine zA fun Kn hK=>?_|refine zU ?_|refine Nx.go ?_|go_step)|(refine ⟨_,isref_m x (by first|rfl|(rw [treeC_eq];first|rfl|(simp only [go_sem, *];done))) s,?_⟩)|with_reducible (first|refine zI ?_|refine zV ?_)|simp (maxSteps:=9^9) (disch:=omega) only [wq]|with_reducible refine zM (fun hb=>?_) (fun hb=>?_)<;>try simp only [hb]|with_reducible refine And.intro (by first|omega|(simp;done)|(simp;omega)) ?_|simp (maxSteps:=9^9) -implicitDefEqProofs only [go_sem,gt_iff_lt,h0,h1]))
  all_goals (unfold headB;simp only [*];rfl)
theorem sclone_o {G:Nat→Option (List D)} (l:List Tree) (hl:l.length≤100000000):Spec Tryz.prog G 94 [.c (.sl l.length (l.flatMap treeC))] (.obj 7 (.a (.c (.row 7 5 0 l.length .grow))) ⟨45,(l.flatMap treeC).map C.d,false,false⟩):=by
 cases l with
 | nil =>
  refine specO_empty (pre:=[]) (post:=[]) fun A c=>?_
  refine specO_go Tryz.func94 rfl rfl rfl (by kernel_rfl) (by (iterate 2 ((try simp (maxSteps:=9^9) -implicitDefEqProofs only [go_sem,true_and]);(try simp (maxSteps:=9^9) (disch:=omega) only [wq])))) (by (iterate 2 ((try simp (maxSteps:=9^9) -implicitDefEqProofs only [go_sem,List.all_cons,List.all_nil]);(try simp (maxSteps:=9^9) (disch:=omega) only [wq])))) fun K m=>?_
  cases A with
  | none =>
   (repeat' (first|with_reducible (first|refine zA fun Kn hK=>?_|refine zU ?_|refine zD ?_|refine zN ?_|refine zH ?_|go_step)|with_reducible (first|refine zI ?_|refine zK ?_ ?_|refine zL ?_ ?_|refine zV ?_)|simp (maxSteps:=9^9) (disch:=omega) only [wq]|with_reducible refine zM (fun hb=>?_) (fun hb=>?_)<;>try simp only [hb]|with_reducible refine And.intro (by first|omega|(simp;done)|(simp;omega)) ?_|simp (maxSteps:=9^9) -implicitDefEqProofs only [go_sem,true_and,List.flatMap_nil]))
   refine sound_void 2 7 5 45 (by rfl) (by rfl) ?_
   (repeat' (first|with_reducible (first|refine zA fun Kn hK=>?_|refine zU ?_|refine Nx.go ?_|go_step)|refine raw_t (by rfl) (by rfl) (by rfl)|with_reducible (first|refine zI ?_|refine zK ?_ ?_|refine zL ?_ ?_|refine zV ?_)|simp (maxSteps:=9^9) (disch:=omega) only [wq]|with_reducible refine zM (fun hb=>?_) (fun hb=>?_)<;>try simp only [hb]|with_reducible refine And.intro (by first|omega|(simp;done)|(simp;omega)) ?_|simp (maxSteps:=9^9) -implicitDefEqProofs only [go_sem,true_and,List.flatMap_nil,List.map_nil]))
  | some A=>(repeat' (first|with_reducible (first|refine zA fun Kn hK=>?_|refine zU ?_|refine Nx.go ?_|go_step)|refine raw_t (by rfl) (by rfl) (by rfl)|with_reducible (first|refine zI ?_|refine zK ?_ ?_|refine zL ?_ ?_|refine zV ?_)|simp (maxSteps:=9^9) (disch:=omega) only [wq]|with_reducible refine zM (fun hb=>?_) (fun hb=>?_)<;>try simp only [hb]|with_reducible refine And.intro (by first|omega|(simp;done)|(simp;omega)) ?_|simp (maxSteps:=9^9) -implicitDefEqProofs only [go_sem,true_and,List.flatMap_nil,List.map_nil]))
 | cons x l =>
  generalize hn:x::l=k at *
  have h0:0<k.length:=by rw [← hn];simp
  refine specO_go Tryz.func94 rfl rfl rfl (by kernel_rfl) (by (iterate 2 ((try simp (maxSteps:=9^9) -implicitDefEqProofs only [go_sem,true_and]);(try simp (maxSteps:=9^9) (disch:=omega) only [wq])))) (by (iterate 2 ((try simp (maxSteps:=9^9) -implicitDefEqProofs only [go_sem,List.all_cons,List.all_nil]);(try simp (maxSteps:=9^9) (disch:=omega) only [wq])))) fun K m=>?_
  (repeat' (first|with_reducible (first|refine zA fun Kn hK=>?_|refine zU ?_|refine Nx.go ?_|go_step)|refine raw_t (by rfl) (by rfl) (by rfl)|with_reducible (first|refine zI ?_|refine zK ?_ ?_|refine zL ?_ ?_|refine zV ?_)|simp (maxSteps:=9^9) (disch:=omega) only [wq]|with_reducible refine zM (fun hb=>?_) (fun hb=>?_)<;>try simp only [hb]|with_reducible refine And.intro (by first|omega|(simp;done)|(simp;omega)) ?_|simp (maxSteps:=9^9) -implicitDefEqProofs only [go_sem,List.length_map]))
def bl (xs:List UInt8):List Value:=xs.map fun x=>Value.int .u8 (x.toNat:Int)
theorem bl_len (xs:List UInt8):(bl xs).length=xs.length:=by simp [bl]
theorem bl_app (xs ys:List UInt8):bl (xs++ys)=bl xs++bl ys:=by simp [bl]
theorem bl_one {xs:List UInt8}: ∀ u∈bl xs,u.oneCell'=true:=by
 intro u hu
 obtain ⟨x,_,rfl⟩:=List.mem_map.1 hu
 rfl
def OwnB (w:World) (base:Nat) (v:Value) (xs:List UInt8):Prop:=
 (v= .slice none 0 0∧xs=[])∨ ∃ g cap,v= .slice (some ⟨g,0,none⟩) xs.length cap∧base≤g∧g<w.heap.size∧xs.length≤cap∧cap≤9223372036854775807 ∧
  (∀ j u,(bl xs)[j]?=some u→w.cell? ⟨g,j,none⟩=some u)∧ ∀ j,j<cap→(w.cell? ⟨g,j,none⟩).isSome=true∧w.frozen? ⟨g,j,none⟩=false
section
variable {P:Program} {w w':World}
theorem OwnB.nil {base:Nat}:OwnB w base (.slice none 0 0) []:= .inl ⟨rfl,rfl⟩
theorem OwnB.lt {base:Nat} {v:Value} {xs:List UInt8} (h:OwnB w base v xs): ∀ k,v.ownBlock=some k→base≤k∧k<w.heap.size:=by
 rcases h with ⟨rfl,_⟩|⟨g,cap,rfl,hb,hg,_⟩
 ·simp [Value.ownBlock]
 ·intro k hk
  simp [Value.ownBlock] at hk
  subst hk
  exact ⟨hb,hg⟩
theorem OwnB.of_own {e:TypeId} {base:Nat} {S:Nat→Prop} {v:Value} {xs:List UInt8} (h:Rep.u8.own e w base S v xs):OwnB w base v xs:=by
 obtain ⟨cells,ho,hr⟩:=h
 rcases ho.2 with ⟨rfl,hn⟩|⟨g,cap,cur,rfl,hb,hg,hc1,hc2,hc3,hc4⟩
 ·exact .inl ⟨rfl,List.eq_nil_of_length_eq_zero hn⟩
 ·refine .inr ⟨g,cap,rfl,hb,(Array.getElem?_eq_some_iff.1 hg).1,hc1,by simpa [maxLen] using hc2,fun j u hu=>?_,fun j hj=>⟨?_,?_⟩⟩
  ·have hj:j<xs.length:=by
    have:=(List.getElem?_eq_some_iff.1 hu).1
    rwa [bl_len] at this
   have hx:=hr j xs[j] (List.getElem?_eq_getElem hj)
   simp only [Rep.u8,Nat.mul_one] at hx
   have h0:cells[j]?=some (.int .u8 (xs[j].toNat:Int)):=by
    have:=congrArg (fun l=>l[0]?) hx
    simpa [List.getElem?_take,List.getElem?_drop] using this
   have hu':u= .int .u8 (xs[j].toNat:Int):=by
    simp [bl,List.getElem?_map,List.getElem?_eq_getElem hj] at hu
    exact hu.symm
   have:=ho.cells (g:=g) rfl j _ h0
   rw [Addr.add_lit,Nat.zero_add] at this
   rw [this,hu']
  ·have hsz:j<cur.size:=by rw [hc3];simpa [Rep.u8] using hj
   rw [cell_of_row w g j cur e (0,0) hg,Array.getElem?_eq_getElem hsz]
   rfl
  ·exact boxed_frozen hg j
theorem OwnB.keep {base:Nat} {v:Value} {xs:List UInt8} (h:OwnB w base v xs) {row:Option Nat} (hg:w.grownBy w' row) (hne:v.ownBlock=none∨v.ownBlock≠row):OwnB w' base v xs:=by
 rcases h with ⟨rfl,rfl⟩|⟨g,cap,rfl,hb,hgl,h1,h2,h3,h4⟩
 ·exact .nil
 ·have hrow:some g≠row:=by
   rcases hne with h|h
   ·simp [Value.ownBlock] at h
   ·simpa [Value.ownBlock] using h
  have hblk:=hg.block g hgl hrow
  refine .inr ⟨g,cap,rfl,hb,Nat.lt_of_lt_of_le hgl hg.size,h1,h2,fun j u hu=>?_,fun j hj=>⟨?_,?_⟩⟩
  ·rw [World.cell?_of_block hblk]
   exact h3 j u hu
  ·rw [World.cell?_of_block hblk]
   exact (h4 j hj).1
  ·have:w'.frozen? ⟨g,j,none⟩=w.frozen? ⟨g,j,none⟩:=by simp [World.frozen?,hblk]
   rw [this]
   exact (h4 j hj).2
theorem OwnB.later {base:Nat} {v:Value} {xs:List UInt8} (h:OwnB w base v xs) (hB:Below w.heap.size w w'):OwnB w' base v xs:=
 h.keep (row:=none) ⟨hB.os,hB.tape,hB.output,hB.size,fun k hk _=>hB.block k hk⟩ (by cases hv:v.ownBlock<;>simp)
theorem OwnB.alloc {base:Nat} {v:Value} {xs:List UInt8} (h:OwnB w base v xs) (o:Obj):OwnB (w.alloc o) base v xs:=h.later (Below.alloc (Below.refl _ w) (Nat.le_refl _) o)
theorem sl_cells {S:Nat→Prop} {A:Option Addr} {m c:Nat} {ys:List UInt8} (h:Rep.u8.sl w S A m c ys) (hm:0<m): ∃ ad,A=some ad∧ ∀ j u,(bl ys)[j]?=some u→w.cell? (ad.add j)=some u:=by
 obtain ⟨b,o,rfl,hb,hr⟩:=h.2.2.2 hm
 refine ⟨_,rfl,fun j u hu=>?_⟩
 have hj:j<ys.length:=by
  have:=(List.getElem?_eq_some_iff.1 hu).1
  rwa [bl_len] at this
 obtain ⟨es,he,hc⟩:=hr j ys[j] (List.getElem?_eq_getElem hj)
 obtain rfl:es=[.int .u8 (ys[j].toNat:Int)]:=he
 have:=hc 0 _ rfl
 simp only [Rep.u8,Nat.mul_one,Nat.add_zero] at this
 rw [Addr.add_lit,this]
 simp [bl,List.getElem?_map,List.getElem?_eq_getElem hj] at hu
 rw [hu]
theorem run_appB {t e:TypeId} (T:ElemT P t e (.int .u8 0) 1 1) (ty:TypeId) {base:Nat} {v:Value} {xs ys:List UInt8} (h:OwnB w base v xs) {S:Nat→Prop} {A:Option Addr} {m c:Nat} (hs:Rep.u8.sl w S A m c ys)
  (hbytes:xs.length+m≤140737488355328) (hbase:base≤w.heap.size) :
  ∃ v' w',(Builtin.append_ #[t,t] ty #[v,.slice A m c]).run P w= .ok v' w'∧OwnB w' base v' (xs++ys)∧w.grownBy w' v.ownBlock:=by
 obtain ⟨i,hi,hz,hsz,hb⟩:=info_parts T.info
 have hm:=hs.1
 rcases Nat.eq_zero_or_pos m with h0|h0
 ·have:ys=[]:=List.eq_nil_of_length_eq_zero (by rw [hm,h0])
  subst this
  subst h0
  refine ⟨v,w,?_,by simpa using h,World.grownBy.refl _ _⟩
  rcases h with ⟨rfl,_⟩|⟨g,cap,rfl,_,_,hnc,_⟩
  ·cases A<;>simp [Builtin.append_,run_underlying T.und,sizeOf,typeInfo,hi,Builtin.lenOf,Builtin.firstCells,loadCells,loadCellsFrom]
  ·cases A<;>simp [Builtin.append_,run_underlying T.und,sizeOf,typeInfo,hi,Builtin.lenOf,Builtin.firstCells,loadCells,loadCellsFrom,hnc,storeCells]
 ·obtain ⟨ad,rfl,hc⟩:=sl_cells hs h0
  have hl:(bl ys).length=m*1:=by rw [bl_len,hm];omega
  rcases h with ⟨rfl,rfl⟩|⟨g,cap,rfl,hbg,hgl,h1,h2,h3,h4⟩
  ·obtain ⟨v',w',e1,e2,e3,_⟩:=run_append_own_at (P:=P) w base t ty e i (.int .u8 0) 1 1 T.und hi hz hsz hb T.zsz T.pos (.slice none 0 0) 0 [] (World.ownsRow_nil w base e 1) ad m c (bl ys) hl hc bl_one (by simp only [maxLen];omega) (by simp at hbytes ⊢;omega) hbase
   refine ⟨v',w',e1,OwnB.of_own (e:=e) (S:=fun _=>False) ⟨bl ys,by rw [List.nil_append,hm];simpa [Rep.u8] using e2,fun i x hx=>?_⟩,e3⟩
   show _=_
   rw [List.nil_append] at hx
   rw [show Rep.u8.size=1 from rfl,Nat.mul_one,List.take_one,List.head?_drop]
   simp [bl,hx]
  ·by_cases hroom:xs.length+m≤cap
   ·have hr:=run_append_room_cells (P:=P) w t ty e i T.und hi g 0 xs.length cap ad m c (bl ys) (by rw [hsz];exact hl) hc bl_one hroom
     (fun j hj=>(h4 _ (by rw [hsz];rw [bl_len] at hj;omega)).1) (fun j hj=>(h4 _ (by rw [hsz];rw [bl_len] at hj;omega)).2)
    rw [hsz,Nat.mul_one,Nat.zero_add] at hr
    have hin: ∀ j,j<(bl ys).length→(w.cell? ⟨g,xs.length+j,none⟩).isSome=true:=fun j hj=>(h4 _ (by rw [bl_len] at hj;omega)).1
    have hsize:(w.setCells g xs.length (bl ys)).heap.size=w.heap.size:=by
     have: ∀ (vs:List Value) (o:Nat) (w:World),(w.setCells g o vs).heap.size=w.heap.size:=by
      intro vs
      induction vs with
      | nil=>intro o w;rfl
      | cons v vs ih=>intro o w;rw [World.setCells,ih];simp [World.setCell]
     exact this _ _ _
    have hcell: ∀ j u,(bl (xs++ys))[j]?=some u→(w.setCells g xs.length (bl ys)).cell? ⟨g,j,none⟩=some u:=by
     intro j u hu
     rw [bl_app,List.getElem?_append] at hu
     split at hu
     ·rename_i hj
      rw [World.cell?_setCells_out g _ _ _ _ (fun _ _=> .inl (by show j<xs.length;rwa [bl_len] at hj))]
      exact h3 j u hu
     ·rename_i hj
      rw [bl_len] at hj hu
      have hj2:=(List.getElem?_eq_some_iff.1 hu).1
      have:=World.cell?_setCells_in g (bl ys) xs.length w hin (j-xs.length) hj2
      rw [show xs.length+(j-xs.length)=j by omega] at this
      rw [this,← hu,List.getElem?_eq_getElem hj2]
    have hsome: ∀ j,j<cap→((w.setCells g xs.length (bl ys)).cell? ⟨g,j,none⟩).isSome=true:=by
     intro j hj
     by_cases hin2:xs.length≤j∧j<xs.length+m
     ·have hj2:j-xs.length<(bl ys).length:=by rw [bl_len];omega
      have:=World.cell?_setCells_in g (bl ys) xs.length w hin (j-xs.length) hj2
      rw [show xs.length+(j-xs.length)=j by omega] at this
      rw [this]
      rfl
     ·rw [World.cell?_setCells_out g _ _ _ _ (fun _ _=>by show j<xs.length∨xs.length+(bl ys).length≤j;rw [bl_len];omega)]
      exact (h4 j hj).1
    refine ⟨_,_,hr,.inr ⟨g,cap,by rw [List.length_append,hm],hbg,by rw [hsize];exact hgl,by rw [List.length_append,hm];exact hroom,h2,hcell,fun j hj=>⟨hsome j hj,by rw [World.frozen?_setCells];exact (h4 j hj).2⟩⟩,?_⟩
    have hgr: ∀ (vs:List Value) (o:Nat) (w:World),w.grownBy (w.setCells g o vs) (some g):=by
     intro vs
     induction vs with
     | nil=>intro o w;exact World.grownBy.refl _ _
     | cons v vs ih =>
      intro o w
      rw [World.setCells]
      exact grownBy_trans (grownBy_set (World.grownBy.refl w (some g)) v) (ih _ _)
    exact hgr _ _ _
   ·obtain ⟨v',w',e1,e2,e3⟩:=run_append_arg_grows (P:=P) w t ty e i (.int .u8 0) 1 1 T.und hi hz hsz hb T.zsz T.pos ⟨g,0,none⟩ xs.length cap (bl xs) (by rw [bl_len];omega)
     (fun j u hu=>by rw [Addr.add_lit,Nat.zero_add];exact h3 j u hu) ad m c (bl ys) hl hc (by omega) (by simp only [maxLen];omega) (by omega)
    refine ⟨v',w',e1,OwnB.of_own (e:=e) (S:=fun _=>False) ⟨bl (xs++ys),?_,fun i x hx=>?_⟩,grownBy_any e3 _⟩
    ·rw [List.length_append,hm,bl_app]
     exact ownsRow_base e2 fun k hk=>Nat.le_trans hbase (e2.lt k hk).1
    ·show _=_
     rw [show Rep.u8.size=1 from rfl,Nat.mul_one,List.take_one,List.head?_drop]
     rw [show (bl (xs++ys))[i]?=some (.int .u8 (x.toNat:Int)) by rw [bl,List.getElem?_map,hx];rfl]
     rfl
theorem wp_appB {o:Oper} {a:Act} {K:Act→World→Prop} {Q:Exit→Act→World→Prop} {t e:TypeId} (T:ElemT P t e (.int .u8 0) 1 1) (s x:Operand)
  (ho:o.op= .call { callee:= .builtin .append,args:= #[s,x],argTypes:= #[t,t] }) {base:Nat} {v:Value} {xs ys:List UInt8} (hs:a.eval s=v) (hown:OwnB w base v xs) {S:Nat→Prop}
  {A:Option Addr} {m c:Nat} (hx:a.eval x= .slice A m c) (hsl:Rep.u8.sl w S A m c ys) (hbytes:xs.length+m≤140737488355328) (hbase:base≤w.heap.size)
  (h: ∀ v' w',OwnB w' base v' (xs++ys)→w.grownBy w' v.ownBlock→K (a.put o.dst v') w'):o.wp P a w K Q:=by
 obtain ⟨v',w',hrun,h2,h3⟩:=run_appB T o.type hown hsl hbytes hbase
 unfold Oper.wp execOp
 simp only [ho,resolve,invoke,builtin,Sem.run_bind,Sem.run_pure,Result.andThen_ok,List.map_toArray,List.map_cons,List.map_nil,hs,hx,hrun]
 exact h v' w' h2 h3
theorem wpList_appB {ops:Array Oper} {rest:List Oper} {o:Oper} {a:Act} {Q:Exit→Act→World→Prop} (hgd:o.guard=none) {t e:TypeId} (T:ElemT P t e (.int .u8 0) 1 1) (s x:Operand)
  (ho:o.op= .call { callee:= .builtin .append,args:= #[s,x],argTypes:= #[t,t] }) {base:Nat} {v:Value} {xs ys:List UInt8} (hs:a.eval s=v) (hown:OwnB w base v xs) {S:Nat→Prop}
  {A:Option Addr} {m c:Nat} (hx:a.eval x= .slice A m c) (hsl:Rep.u8.sl w S A m c ys) (hbytes:xs.length+m≤140737488355328) (hbase:base≤w.heap.size)
  (h: ∀ v' w',OwnB w' base v' (xs++ys)→w.grownBy w' v.ownBlock→wpList P ops Q rest (a.put o.dst v') w'):wpList P ops Q (o::rest) a w:=
 wpList_plain hgd fun _ hK=>wp_appB T s x ho hs hown hx hsl hbytes hbase fun v' w' h2 h3=>hK _ _ (h v' w' h2 h3)
theorem conv_own {src dst e:TypeId} (hs:P.underlying src=some .string) (hd:P.underlying dst=some (.slice e)) (he:P.underlying e=some (.int .u8)) (w:World) (xs:List UInt8) (hx:xs.length≤9223372036854775807) :
  ∃ v w',(convert src dst (.string ⟨xs.toArray⟩)).run P w= .ok v w'∧OwnB w' w.heap.size v xs∧Below w.heap.size w w':=by
 have hl:ByteArray.size ⟨xs.toArray⟩=xs.length:=by simp [ByteArray.size]
 have hr:=Lib.run_convert_string_bytes (P:=P) w src dst e ⟨xs.toArray⟩ hs hd he
 rw [hl] at hr
 have hge:=grownCap_ge w xs.length 0 e
 have hle:=grownCap_le_maxLen w xs.length 0 e (by simpa [maxLen] using hx)
 have hcs:(Lib.bytesCells w e ⟨xs.toArray⟩).size=grownCap w xs.length 0 e:=by
  simp only [Lib.bytesCells,Array.size_append,Array.size_map,Array.size_replicate,hl]
  show xs.toArray.size+_=_
  rw [List.size_toArray]
  omega
 have hnew:=Lib.bytesWorld_at_new w e ⟨xs.toArray⟩
 refine ⟨_,_,hr,.inr ⟨w.heap.size,_,rfl,Nat.le_refl _,by rw [Lib.bytesWorld_size];omega,hge,by simpa [maxLen] using hle,fun j u hu=>?_,fun j hj=>⟨?_,?_⟩⟩,?_⟩
 ·have hj:j<xs.length:=by
   have:=(List.getElem?_eq_some_iff.1 hu).1
   rwa [bl_len] at this
  rw [Lib.bytesWorld_cell w e ⟨xs.toArray⟩ j (by rw [hl];exact hj)]
  simp [bl,List.getElem?_map,List.getElem?_eq_getElem hj] at hu
  rw [← hu]
  simp [List.getD,hj]
 ·have hsz:j<(Lib.bytesCells w e ⟨xs.toArray⟩).size:=by rw [hcs];exact hj
  simp [World.cell?,hnew,hsz]
 ·simp only [World.frozen?,hnew,Bool.and_eq_false_iff,decide_eq_false_iff_not]
  left
  rw [hcs]
  omega
 ·refine ⟨?_,?_,?_,by rw [Lib.bytesWorld_size];omega,fun k hk=>Lib.bytesWorld_at_old w e _ k hk⟩
  all_goals
   unfold Lib.bytesWorld World.freeze
   split<;>rfl
end
theorem TBm:ElemT Tryz.prog 22 5 (.int .u8 0) 1 1:=⟨Tryz.underlying22,by kernel_rfl,rfl,by decide⟩
theorem below_ev {w w':World} (h:Ev (fun _=>False) w w'):Below w.heap.size w w':=⟨h.os,h.tape,h.output,h.size,fun k hk=>h.block k hk fun h=>h⟩
theorem OwnB.rd {w:World} {base:Nat} {v:Value} {xs:List UInt8} (h:OwnB w base v xs):RD w (fun b=>base≤b∧b<w.heap.size) (bytesD xs) v:=by
 rcases h with ⟨rfl,rfl⟩|⟨g,cap,rfl,hb,hg,hle,hcap,hc,_⟩
 ·exact .nil none 0 (by omega)
 ·refine .sl xs.length cap g 0 _ (fun i=>((bl xs)[i]?).getD undef) hle hcap ⟨hb,hg⟩ (fun i x hx=>?_) fun i x hx=>?_
  all_goals
   rw [List.getElem?_map] at hx
   cases hl:xs[i]? with
   | none=>rw [hl] at hx;cases hx
   | some y =>
    rw [hl] at hx
    have hx:some (bD y)=some x:=hx
    injection hx with hx
    subst hx
    have e:(bl xs)[i]?=some (.int .u8 (y.toNat:Int)):=by simp [bl,hl]
    first
     | (rw [e,Nat.zero_add];exact hc i _ e)
     | (rw [e];exact .v _ rfl)
theorem below_ownM {w0 w w':World} {base:Nat} {v:Value} {xs:List UInt8} (hB:Below w0.heap.size w0 w) (ho:OwnB w base v xs) (hg:w.grownBy w' v.ownBlock) (hb:w0.heap.size≤base):Below w0.heap.size w0 w':=
 hB.grown hg hB.size fun k hk=>Nat.le_trans hb (ho.lt k hk).1
theorem slKeepM {r:Rep UInt8} {S:Nat→Prop} {w w':World} {A:Option Addr} {n c:Nat} {x:List UInt8} (h:r.sl w S A n c x) (hB:Below w.heap.size w w') (hS: ∀ b,S b→b<w.heap.size):r.sl w' S A n c x:=Rep.sl_below h hB hS
theorem sl_litM {w:World} {x:UInt8} {k:Int} (hk:k=(x.toNat:Int)) (t:TypeId):Rep.u8.sl (w.alloc (.cells #[.int .u8 k] t)) (fun _=>True) (some ⟨w.heap.size,0,none⟩) 1 1 [x]:=by
 subst hk
 exact sl_box (r:=Rep.u8) (S:=fun _=>True) (box_new w _ t) trivial rfl (Nat.le_refl _) (by decide) (rd_one rfl)
theorem text_m {G:Nat→Option (List D)} (b:List UInt8) (hn:b.length≤1000000000):Spec Tryz.prog G 97 [.c (bytesD b)] (.one (.c (bytesD (textB b)))):=by
 intro w S vs hS hT hA
 obtain ⟨hl,hc⟩:=hA
 match vs,hl with
 | [u],_ =>
  obtain ⟨A,c,rfl,hs⟩:=bytes_sl (hc 0 _ _ rfl rfl) rfl
  have HS:=Lib.hid hs
  have HSS:=Lib.hid hS
  have HDM:=Lib.hid (dec_m (G:=G) b.length hn w S [.int .i64 (b.length:Nat)] hS hT ⟨rfl,fun i x v hx hv=>by
   cases i with
   | zero =>
    simp at hx hv
    subst hx hv
    exact .v _ rfl
   | succ i=>simp at hx⟩)
  have HT:Hid (dec b.length++[58]++b=textB b):=rfl
  have hdl:(dec b.length).length≤10:=dec_len 9 (by simp only [Nat.reduceAdd,Nat.reducePow];omega)
  have HD:=Lib.hid hdl
  clear hs hdl hS hT hc
  generalize b.length=n at *
  go_enter Tryz.func97,Tryz.ntmps97
  go_wp2_with fail
  refine Calls.mono HDM.out ?_
  rintro e w1 ⟨hE1,u1,rfl,hu1⟩
  have hB1:=below_ev hE1
  obtain rfl:u1= .string ⟨(dec n).toArray⟩:=by
   have h9:RD w1 _ (.v (.string ⟨(dec n).toArray⟩)) u1:=hu1
   cases h9
   rfl
  clear hu1 hE1 HDM
  obtain ⟨v2,w2,hcv,ho2,hB2⟩:=conv_own (P:=Tryz.prog) Tryz.underlying9 Tryz.underlying22 Tryz.underlying5 w1 (dec n) (by have:=HD.out;omega)
  have hB2':Below w.heap.size w w2:=hB1.trans (hB2.mono hB1.size)
  have hz1:=hB1.size
  have hz2:=hB2.size
  generalize dec n=D at *
  go_wp2_with (at_builtin;refine halt ?_)
  refine go_on (wpList_appB rfl TBm _ _ rfl (by rfl) (ho2.alloc _) (by rfl) (sl_litM (x:=58) rfl _) (by have:=HD.out;omega) (by simp only [World.size_alloc];omega) ?_)
  intro v3 w3 ho3 hg3
  have hB3:=below_ownM (hB2'.alloc hB2'.size _) (ho2.alloc _) hg3 hz1
  have hz3:=hB3.size
  have hs3:=slKeepM HS.out hB3 HSS.out
  have hg3b:w1.heap.size≤w3.heap.size:=Nat.le_trans (by simp only [World.size_alloc];omega) hg3.size
  clear hcv hB2 hB1 hg3
  go_wp2_with (at_builtin;refine halt ?_)
  refine go_on (wpList_appB rfl TBm _ _ rfl (by rfl) ho3 (by rfl) hs3 (by have:=HD.out;simp only [List.length_append,List.length_singleton];omega) (by have:=hg3b;omega) ?_)
  intro v4 w4 ho4 hg4
  have hB4:=below_ownM hB3 ho3 hg4 hz1
  rw [HT.out] at ho4
  have HO:=Lib.hid ho4
  clear ho4 hg4 ho3 hs3
  go_wp2
  go_ret
  exact ⟨⟨hB4.os,hB4.tape,hB4.output,hB4.size,fun k hk _=>hB4.block k hk⟩,v4,rfl,RD.mono (fun b hb=> .inr ⟨by omega,hb.2⟩) (fun _ _=>rfl) HO.out.rd⟩
theorem form_m {G:Nat→Option (List D)}: ∀ t:Tree,∀ cs:List D,treeC t=cs→t.wt≤30000000→Spec Tryz.prog G 54 [.g cs] (.one (.c (bytesD t.form))):=Tree.ind fun t ih cs hcs hw=>by
 subst hcs
 have hf:=Tree.form_wt t hw
 refine spec_of Tryz.func54 rfl rfl rfl (by kernel_rfl) rfl fun K=>?_
 rw [treeC_eq]
 cases hl:t.list with
 | false =>
  have hlh:=t.wt_hint
  have hld:=t.wt_data
  have h1:=textB_len (b:=t.hint) (n:=30000000) (by omega) (by omega)
  have h2:=textB_len (b:=t.data) (n:=30000000) (by omega) (by omega)
  (repeat' (first|with_reducible (first|refine zA fun Kn hK=>?_|refine zU ?_|refine Nx.go ?_|go_step)|(refine ⟨_,text_m t.hint (by omega),?_⟩)|(refine ⟨_,text_m t.data (by omega),?_⟩)|with_reducible (first|refine zI ?_|refine zV ?_)|simp (maxSteps:=9^9) (disch:=omega) only [wq]|with_reducible refine zM (fun hb=>?_) (fun hb=>?_)<;>try simp only [hb]|with_reducible refine And.intro (by first|omega|(simp;done)|(simp;omega)) ?_|simp (maxSteps:=9^9) -implicitDefEqProofs only [go_sem,List.length_map]))
  all_goals
   rw [t.form_eq,hl]
   simp only [Tree.atomF,hb]
   simp [bytesD,bD,Nat.add_comm,Nat.add_left_comm,Nat.add_assoc]
 | true =>
  have hfe:=t.form_eq
  rw [hl] at hfe
  have hfl: ∀ k,(((t.kids.take k).map Tree.form).flatten).length≤t.form.length:=fun k=>by
   rw [hfe]
   simp only [if_true,List.length_append,List.length_flatten,List.map_map,Function.comp_def]
   have:=sum_upto (l:=t.kids) (k:=k) fun x=>x.form.length
   omega
  (repeat' (first|with_reducible (first|refine zA fun Kn hK=>?_|refine zU ?_|refine Nx.go ?_|go_step)|with_reducible (first|refine zI ?_|refine zV ?_)|simp (maxSteps:=9^9) (disch:=omega) only [wq]|with_reducible refine zM (fun hb=>?_) (fun hb=>?_)<;>try simp only [hb]|with_reducible refine And.intro (by first|omega|(simp;done)|(simp;omega)) ?_|simp (maxSteps:=9^9) -implicitDefEqProofs only [go_sem,true_and]))
  refine sound_loopR (fun x:{k:Nat // k≤t.kids.length}=>⟨[(1,vP 1 0),(3,vR 1000 1 (1+(((t.kids.take x.1).map Tree.form).flatten).length)),(13,vI t.kids.length),(14,vI x.1)],[(1,some ⟨45,treeK t,true,false⟩),(1000,some ⟨5,((40::((t.kids.take x.1).map Tree.form).flatten).map bD).map C.d,false,false⟩)]⟩) (fun x=>t.kids.length-x.1) ⟨0,by omega⟩ [(1000,10)] (by (iterate 2 ((try simp (maxSteps:=9^9) -implicitDefEqProofs only [go_sem,hl]);(try simp (maxSteps:=9^9) (disch:=omega) only [wq])));simp [bD,C.ren]) (fun ⟨k,hk⟩=>?_)
  have h5:=t.wt_kids
  have h6:=hfl k
  by_cases hlt:k<t.kids.length
  ·obtain ⟨x,hx⟩: ∃ x,t.kids[k]?=some x:=⟨_,List.getElem?_eq_getElem hlt⟩
   have hb:decide ((k:Int)<(t.kids.length:Int))=true:=by simpa using hlt
   have hm:=List.mem_of_getElem? hx
   have hxw:=Tree.wt_kid hm
   have h7:=Tree.form_wt x (by omega)
   (repeat' (first|with_reducible (first|refine zA fun Kn hK=>?_|refine zU ?_|refine Nx.go ?_|go_step)|(refine ⟨_,ih x hm _ rfl (by omega),?_⟩)|with_reducible (first|refine zI ?_|refine zV ?_)|simp (maxSteps:=9^9) (disch:=omega) only [wq]|with_reducible refine zM (fun hb=>?_) (fun hb=>?_)<;>try simp only [hb]|with_reducible refine And.intro (by first|omega|(simp;done)|(simp;omega)) ?_|simp (maxSteps:=9^9) -implicitDefEqProofs only [go_sem,hb,flat_at treeC_len hx,List.length_map]))
   refine ⟨[(1000,24)],⟨k+1,hlt⟩,?_⟩
   have h8:((t.kids.take (k+1)).map Tree.form).flatten=((t.kids.take k).map Tree.form).flatten++x.form:=by
    rw [List.take_add_one,hx]
    simp
   (iterate 2 ((try simp (maxSteps:=9^9) -implicitDefEqProofs only [go_sem,h8]);(try simp (maxSteps:=9^9) (disch:=omega) only [wq])))
   simp [Nat.add_assoc]
   omega
  ·have hb:decide ((k:Int)<(t.kids.length:Int))=false:=by simpa using hlt
   obtain rfl:k=t.kids.length:=by omega
   rw [List.take_length] at h6
   (repeat' (first|with_reducible (first|refine zA fun Kn hK=>?_|refine zU ?_|refine Nx.go ?_|go_step)|with_reducible (first|refine zI ?_|refine zV ?_)|simp (maxSteps:=9^9) (disch:=omega) only [wq]|with_reducible refine zM (fun hb=>?_) (fun hb=>?_)<;>try simp only [hb]|with_reducible refine And.intro (by first|omega|(simp;done)|(simp;omega)) ?_|simp (maxSteps:=9^9) -implicitDefEqProofs only [go_sem,hb,List.take_length,List.length_map]))
   rw [hfe]
   simp [bD,Nat.add_comm]
end Go.Proofs.YtfammdfpgccnfaaGreatDoor
