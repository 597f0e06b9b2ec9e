/- A part of the proof; shortened by program. -/
import Derived.Shelf.Small.Utf8
import Derived.Shelf.Strings.Runes
import Derived.Shelf.GgClosure.StringsRunes
import Derived.Test.YtcnkdbldfpaebaaGreatDoorP14
set_option maxRecDepth 100000
set_option maxHeartbeats 4000000
set_option linter.unusedSimpArgs false
set_option linter.unusedVariables false
namespace Go.Proofs
open Go.Shelf
def Tryz.lays119_ren : Go.Shelf.Ren := ⟨fun | 119 => 212 | n => n,fun | 21 => 21 | 4 => 4 | n => n,fun | n => n⟩
theorem Tryz.lays119 : Go.Proofs.Lays.n119 Tryz.prog Tryz.lays119_ren := {
 mixed := by kernel_rfl
 f119 := Tryz.func212.trans (congrArg some (by kernel_rfl))
 t4 := Tryz.underlying4
 a4 := Tryz.isAgg4
 z4 := Tryz.sizeOf4
 v4 := Tryz.zeroValue4
 t21 := Tryz.underlying21
 a21 := Tryz.isAgg21
 z21 := Tryz.sizeOf21
 v21 := Tryz.zeroValue21 }
theorem Tryz.utf8_ValidRune (r : Int) (w : World) :
  Calls Tryz.prog 212 #[.int .i32 r] w fun e w' => e = .returned (.bool (Lib.validRune r)) /\ w' = w := Any.utf8_ValidRune Tryz.lays119 r w
def Tryz.lays106_ren : Go.Shelf.Ren := ⟨fun | 106 => 182 | 213 => 197 | 265 => 204 | n => n,fun | 9 => 9 | 3 => 3 | n => n,fun | n => n⟩
theorem Tryz.lays106 : Go.Proofs.Lays.n106 Tryz.prog Tryz.lays106_ren := {
 mixed := by kernel_rfl
 f106 := Tryz.func182.trans (congrArg some (by kernel_rfl))
 f213 := Tryz.func197.trans (congrArg some (by kernel_rfl))
 f265 := Tryz.func204.trans (congrArg some (by kernel_rfl))
 t3 := Tryz.underlying3
 a3 := Tryz.isAgg3
 z3 := Tryz.sizeOf3
 v3 := Tryz.zeroValue3
 t9 := Tryz.underlying9
 a9 := Tryz.isAgg9
 z9 := Tryz.sizeOf9
 v9 := Tryz.zeroValue9 }
open Go.RowKit in
theorem Tryz.strings_Compare (a b : ByteArray) (w : World) :
  Calls Tryz.prog 182 #[.string a,.string b] w fun e w' => e = .returned (.int .i64 (Lib.compareBytes a.data.toList b.data.toList)) /\ w' = w := Any.strings_Compare Tryz.lays106 a b w
def Tryz.laysGw17_ren : Go.Shelf.Ren := ⟨fun | 17 => 205 | 15 => 208 | 20 => 210 | n => n,fun | 9 => 9 | 23 => 354 | 4 => 4 | 3 => 3 | 0 => 0 | 21 => 21 | n => n,fun | n => n⟩
theorem Tryz.laysGw17 : Go.Proofs.LaysGw.n17 Tryz.prog Tryz.laysGw17_ren := {
 mixed := by kernel_rfl
 f15 := Tryz.func208.trans (congrArg some (by kernel_rfl))
 f17 := Tryz.func205.trans (congrArg some (by kernel_rfl))
 f20 := Tryz.func210.trans (congrArg some (by kernel_rfl))
 t0 := Tryz.underlying0
 a0 := Tryz.isAgg0
 z0 := Tryz.sizeOf0
 v0 := Tryz.zeroValue0
 i0 := by kernel_rfl
 t3 := Tryz.underlying3
 a3 := Tryz.isAgg3
 z3 := Tryz.sizeOf3
 v3 := Tryz.zeroValue3
 i3 := by kernel_rfl
 t4 := Tryz.underlying4
 a4 := Tryz.isAgg4
 z4 := Tryz.sizeOf4
 v4 := Tryz.zeroValue4
 i4 := by kernel_rfl
 t9 := Tryz.underlying9
 a9 := Tryz.isAgg9
 z9 := Tryz.sizeOf9
 v9 := Tryz.zeroValue9
 i9 := by kernel_rfl
 t21 := Tryz.underlying21
 a21 := Tryz.isAgg21
 z21 := Tryz.sizeOf21
 v21 := Tryz.zeroValue21
 i21 := by kernel_rfl
 t23 := Tryz.underlying354
 a23 := Tryz.isAgg354
 z23 := Tryz.sizeOf354
 v23 := Tryz.zeroValue354
 i23 := by kernel_rfl }
open Go.RowKit Go.Lib in
def Tryz.lays151_ren : Go.Shelf.Ren := ⟨fun | 151 => 207 | 152 => 209 | 137 => 211 | 119 => 212 | 224 => 213 | 225 => 214 | 217 => 215 | 266 => 216 | n => n,fun | 9 => 9 | 21 => 21 | 4 => 4 | 3 => 3 | 5 => 5 | 0 => 0 | 46 => 285 | n => n,fun | n => n⟩
theorem Tryz.lays151 : Go.Proofs.Lays.n151 Tryz.prog Tryz.lays151_ren := {
 mixed := by kernel_rfl
 f119 := Tryz.func212.trans (congrArg some (by kernel_rfl))
 f137 := Tryz.func211.trans (congrArg some (by kernel_rfl))
 f151 := Tryz.func207.trans (congrArg some (by kernel_rfl))
 f152 := Tryz.func209.trans (congrArg some (by kernel_rfl))
 f217 := Tryz.func215.trans (congrArg some (by kernel_rfl))
 f224 := Tryz.func213.trans (congrArg some (by kernel_rfl))
 f225 := Tryz.func214.trans (congrArg some (by kernel_rfl))
 f266 := Tryz.func216.trans (congrArg some (by kernel_rfl))
 t0 := Tryz.underlying0
 a0 := Tryz.isAgg0
 z0 := Tryz.sizeOf0
 v0 := Tryz.zeroValue0
 t3 := Tryz.underlying3
 a3 := Tryz.isAgg3
 z3 := Tryz.sizeOf3
 v3 := Tryz.zeroValue3
 t4 := Tryz.underlying4
 a4 := Tryz.isAgg4
 z4 := Tryz.sizeOf4
 v4 := Tryz.zeroValue4
 t5 := Tryz.underlying5
 a5 := Tryz.isAgg5
 z5 := Tryz.sizeOf5
 v5 := Tryz.zeroValue5
 t9 := Tryz.underlying9
 a9 := Tryz.isAgg9
 z9 := Tryz.sizeOf9
 v9 := Tryz.zeroValue9
 t21 := Tryz.underlying21
 a21 := Tryz.isAgg21
 z21 := Tryz.sizeOf21
 v21 := Tryz.zeroValue21
 t46 := Tryz.underlying285
 a46 := Tryz.isAgg285
 z46 := Tryz.sizeOf285
 v46 := Tryz.zeroValue285 }
open Go.RowKit Go.Lib in
theorem Tryz.strings_ContainsRune_ascii (s : ByteArray) (r : Int) (w : World) (h0 : 0 <= r) (h1 : r < 128) :
  Calls Tryz.prog 207 #[.string s,.int .i32 r] w fun e w' => e = .returned (.bool (decide (0 <= Lib.indexByte s.data.toList r.toNat.toUInt8))) /\ w' = w := Any.strings_ContainsRune_ascii Tryz.lays151 s r w h0 h1
end Go.Proofs
namespace Go.AM
open Go Go.Proofs
theorem ld3 : ldI Ew.P 3 = some (1,false) := Kr
theorem ok3 : okI Ew.P 3 = true := Kr
theorem zi3 : zI Ew.P 3 = some [.int .i64 (0)] := Kr
theorem ld4 : ldI Ew.P 4 = some (1,false) := Kr
theorem ld5 : ldI Ew.P 5 = some (1,false) := Kr
theorem ok5 : okI Ew.P 5 = true := Kr
theorem ld9 : ldI Ew.P 9 = some (1,false) := Kr
theorem ok9 : okI Ew.P 9 = true := Kr
theorem zi9 : zI Ew.P 9 = some [.str []] := Kr
theorem st9 : Gw Ew.P 9 = true := Kr
theorem Ce : ldI Ew.P 22 = some (1,false) := Kr
theorem zi22 : zI Ew.P 22 = some [.nil (.slice none 0 0)] := Kr
theorem Ee : Fd Ew.P 22 = true := Kr
theorem Da : elI Ew.P 22 = some (1,16,some [.str []]) := Kr
theorem Ajh : ldI Ew.P 23 = some (1,false) := Kr
theorem Aji : Fd Ew.P 23 = true := Kr
theorem el23 : elI Ew.P 23 = some (8,168,some [.str [],.bool false,.nil (.slice none 0 0),.nil (.slice none 0 0),.nil (.slice none 0 0),.nil (.slice none 0 0),.nil (.slice none 0 0),.nil (.slice none 0 0)]) := Kr
theorem Hy : ldI Ew.P 25 = some (3,true) := Kr
theorem Ajj : fdI Ew.P 25 0 = some (0,1,false) := Kr
theorem Qe : fdI Ew.P 25 1 = some (1,1,false) := Kr
theorem Sj : fdI Ew.P 25 2 = some (2,1,false) := Kr
theorem Wc : ldI Ew.P 26 = some (1,false) := Kr
theorem zi26 : zI Ew.P 26 = some [.nil (.slice none 0 0)] := Kr
theorem Aep : Fd Ew.P 26 = true := Kr
theorem Agr : elI Ew.P 26 = some (1,8,some [.int .i64 (0)]) := Kr
theorem ld27 : ldI Ew.P 27 = some (1,false) := Kr
theorem sl27 : Fd Ew.P 27 = true := Kr
theorem el27 : elI Ew.P 27 = some (2,40,some [.str [],.nil (.slice none 0 0)]) := Kr
theorem Apg : ldI Ew.P 29 = some (3,true) := Kr
theorem Auf : fdI Ew.P 29 0 = some (0,1,false) := Kr
theorem Aph : fdI Ew.P 29 1 = some (1,1,false) := Kr
theorem Ajk : fdI Ew.P 29 2 = some (2,1,false) := Kr
theorem Mf : ldI Ew.P 30 = some (1,false) := Kr
theorem Wd : Fd Ew.P 30 = true := Kr
theorem Aai : elI Ew.P 30 = some (2,40,some [.str [],.nil (.slice none 0 0)]) := Kr
theorem Bv : ldI Ew.P 32 = some (2,true) := Kr
theorem Sk : zI Ew.P 32 = some [.str [],.nil (.slice none 0 0)] := Kr
theorem I1 : fdI Ew.P 32 0 = some (0,1,false) := Kr
theorem Gg : fdI Ew.P 32 1 = some (1,1,false) := Kr
theorem Api : bdI Ew.P 32 = some ([.str [],.nil (.slice none 0 0)],[(0,1),(1,1)]) := Kr
theorem sl33 : Fd Ew.P 33 = true := Kr
theorem el33 : elI Ew.P 33 = some (2,24,some [.str [],.int .i64 (0)]) := Kr
theorem ld38 : ldI Ew.P 38 = some (1,false) := Kr
theorem sl38 : Fd Ew.P 38 = true := Kr
theorem el38 : elI Ew.P 38 = some (2,40,some [.str [],.nil (.slice none 0 0)]) := Kr
theorem Aaj : ldI Ew.P 40 = some (3,true) := Kr
theorem zi40 : zI Ew.P 40 = some [.int .i64 (0),.nil (.slice none 0 0),.nil (.slice none 0 0)] := Kr
theorem Aeq : fdI Ew.P 40 0 = some (0,1,false) := Kr
theorem Apj : fdI Ew.P 40 1 = some (1,1,false) := Kr
theorem Ajl : fdI Ew.P 40 2 = some (2,1,false) := Kr
theorem bd40 : bdI Ew.P 40 = some ([.int .i64 (0),.nil (.slice none 0 0),.nil (.slice none 0 0)],[(0,1),(1,1),(2,1)]) := Kr
theorem sl42 : Fd Ew.P 42 = true := Kr
theorem Aer : elI Ew.P 42 = some (2,24,some [.str [],.int .i64 (0)]) := Kr
theorem ld44 : ldI Ew.P 44 = some (2,true) := Kr
theorem zi44 : zI Ew.P 44 = some [.str [],.int .i64 (0)] := Kr
theorem ld45 : ldI Ew.P 45 = some (2,true) := Kr
theorem Aug : fdI Ew.P 45 0 = some (0,1,false) := Kr
theorem Aes : fdI Ew.P 45 1 = some (1,1,false) := Kr
theorem bd45 : bdI Ew.P 45 = some ([.str [],.int .i64 (0)],[(0,1),(1,1)]) := Kr
theorem ld46 : ldI Ew.P 46 = some (1,false) := Kr
theorem Jj : okI Ew.P 46 = true := Kr
theorem zi46 : zI Ew.P 46 = some [.int .i64 (0)] := Kr
theorem ld50 : ldI Ew.P 50 = some (3,true) := Kr
theorem zi50 : zI Ew.P 50 = some [.str [],.str [],.nil (.slice none 0 0)] := Kr
theorem Ajm : fdI Ew.P 50 0 = some (0,1,false) := Kr
theorem Apk : fdI Ew.P 50 1 = some (1,2,true) := Kr
theorem bd50 : bdI Ew.P 50 = some ([.str [],.str [],.nil (.slice none 0 0)],[(0,1),(1,2)]) := Kr
theorem sl51 : Fd Ew.P 51 = true := Kr
theorem el51 : elI Ew.P 51 = some (3,56,some [.str [],.str [],.nil (.slice none 0 0)]) := Kr
theorem K7 : ldI Ew.P 56 = some (1,false) := Kr
theorem F3 : Fd Ew.P 56 = true := Kr
theorem Ih : elI Ew.P 56 = some (3,48,some [.str [],.bool false,.nil (.slice none 0 0)]) := Kr
theorem Am7 : ldI Ew.P 57 = some (1,false) := Kr
theorem Aak : Fd Ew.P 57 = true := Kr
theorem We : elI Ew.P 57 = some (2,32,some [.str [],.str []]) := Kr
theorem Qf : ldI Ew.P 59 = some (8,true) := Kr
theorem zi59 : zI Ew.P 59 = some [.str [],.bool false,.nil (.slice none 0 0),.nil (.slice none 0 0),.nil (.slice none 0 0),.nil (.slice none 0 0),.nil (.slice none 0 0),.nil (.slice none 0 0)] := Kr
theorem Sl : fdI Ew.P 59 0 = some (0,1,false) := Kr
theorem Aet : fdI Ew.P 59 1 = some (1,1,false) := Kr
theorem Hf : fdI Ew.P 59 2 = some (2,1,false) := Kr
theorem Apl : fdI Ew.P 59 3 = some (3,1,false) := Kr
theorem Wf : fdI Ew.P 59 4 = some (4,1,false) := Kr
theorem Wg : fdI Ew.P 59 5 = some (5,1,false) := Kr
theorem Aeu : fdI Ew.P 59 6 = some (6,1,false) := Kr
theorem Aal : fdI Ew.P 59 7 = some (7,1,false) := Kr
theorem D2 : ldI Ew.P 61 = some (3,true) := Kr
theorem Sm : zI Ew.P 61 = some [.str [],.bool false,.nil (.slice none 0 0)] := Kr
theorem Fu : fdI Ew.P 61 0 = some (0,1,false) := Kr
theorem I2 : fdI Ew.P 61 1 = some (1,1,false) := Kr
theorem C7 : fdI Ew.P 61 2 = some (2,1,false) := Kr
theorem ld65 : ldI Ew.P 65 = some (1,false) := Kr
theorem Apm : ldI Ew.P 69 = some (2,true) := Kr
theorem zi69 : zI Ew.P 69 = some [.str [],.nil (.slice none 0 0)] := Kr
theorem Auh : fdI Ew.P 69 1 = some (1,1,false) := Kr
theorem ld71 : ldI Ew.P 71 = some (1,false) := Kr
theorem zi71 : zI Ew.P 71 = some [.nil (.nilFunc)] := Kr
theorem ld81 : ldI Ew.P 81 = some (2,true) := Kr
theorem zi81 : zI Ew.P 81 = some [.str [],.nil (.slice none 0 0)] := Kr
theorem Ajn : fdI Ew.P 81 0 = some (0,1,false) := Kr
theorem Ajo : fdI Ew.P 81 1 = some (1,1,false) := Kr
theorem Qg : ldI Ew.P 82 = some (1,false) := Kr
theorem X0 : Fd Ew.P 82 = true := Kr
theorem La : elI Ew.P 82 = some (4,64,some [.str [],.str [],.nil (.slice none 0 0),.bool false]) := Kr
theorem D3 : ldI Ew.P 84 = some (2,true) := Kr
theorem Ajp : zI Ew.P 84 = some [.nil (.slice none 0 0),.nil (.slice none 0 0)] := Kr
theorem Qh : fdI Ew.P 84 0 = some (0,1,false) := Kr
theorem Gh : fdI Ew.P 84 1 = some (1,1,false) := Kr
theorem Apn : bdI Ew.P 84 = some ([.nil (.slice none 0 0),.nil (.slice none 0 0)],[(0,1),(1,1)]) := Kr
theorem ld87 : ldI Ew.P 87 = some (1,false) := Kr
theorem Apo : mpI Ew.P 87 = some (9,.agg [.str [],.nil (.slice none 0 0)],2,true) := Kr
theorem Abo : ldI Ew.P 88 = some (1,false) := Kr
theorem Ags : Fd Ew.P 88 = true := Kr
theorem Abp : elI Ew.P 88 = some (3,40,some [.str [],.str [],.int .i64 (0)]) := Kr
theorem Ey : ldI Ew.P 90 = some (4,true) := Kr
theorem X1 : zI Ew.P 90 = some [.str [],.str [],.nil (.slice none 0 0),.bool false] := Kr
theorem Aam : fdI Ew.P 90 0 = some (0,1,false) := Kr
theorem Aev : fdI Ew.P 90 1 = some (1,1,false) := Kr
theorem Lz : fdI Ew.P 90 2 = some (2,1,false) := Kr
theorem Aan : fdI Ew.P 90 3 = some (3,1,false) := Kr
theorem Am8 : bdI Ew.P 90 = some ([.str [],.str [],.nil (.slice none 0 0),.bool false],[(0,1),(1,1),(2,1),(3,1)]) := Kr
theorem Atd : ldI Ew.P 100 = some (1,false) := Kr
theorem Uh : mpI Ew.P 100 = some (9,.int .i64 (0),1,false) := Kr
theorem ar102 : arI Ew.P 102 = some (5,1,false) := Kr
theorem Ak6 : ldI Ew.P 103 = some (1,false) := Kr
theorem Agt : mpI Ew.P 103 = some (9,.nil (.slice none 0 0),1,false) := Kr
theorem ld105 : ldI Ew.P 105 = some (12,true) := Kr
theorem Ar8 : fdI Ew.P 105 1 = some (3,2,true) := Kr
theorem Ak7 : fdI Ew.P 105 2 = some (5,1,false) := Kr
theorem Ar9 : fdI Ew.P 105 3 = some (6,5,true) := Kr
theorem Ye : fdI Ew.P 105 4 = some (11,1,false) := Kr
theorem bd105 : bdI Ew.P 105 = some ([.nil (.slice none 0 0),.nil (.slice none 0 0),.nil (.slice none 0 0),.nil (.slice none 0 0),.nil (.slice none 0 0),.int .i64 (0),.bool false,.bool false,.bool false,.bool false,.bool false,.nil (.map none)],[(0,3),(3,2),(5,1),(6,5),(11,1)]) := Kr
theorem Agu : ldI Ew.P 130 = some (1,false) := Kr
theorem zi130 : zI Ew.P 130 = some [.nil (.nilFunc)] := Kr
theorem Ak8 : ldI Ew.P 139 = some (1,false) := Kr
theorem zi139 : zI Ew.P 139 = some [.nil (.nilFunc)] := Kr
theorem Agv : ldI Ew.P 154 = some (1,false) := Kr
theorem Qi : mpI Ew.P 154 = some (9,.agg [.str [],.bool false,.nil (.slice none 0 0)],3,true) := Kr
theorem Ox : ldI Ew.P 156 = some (3,true) := Kr
theorem Ak9 : zI Ew.P 156 = some [.str [],.str [],.int .i64 (0)] := Kr
theorem Ala : fdI Ew.P 156 0 = some (0,1,false) := Kr
theorem Q7 : fdI Ew.P 156 1 = some (1,1,false) := Kr
theorem Ui : fdI Ew.P 156 2 = some (2,1,false) := Kr
theorem Alb : bdI Ew.P 156 = some ([.str [],.str [],.int .i64 (0)],[(0,1),(1,1),(2,1)]) := Kr
theorem Uj : mpI Ew.P 188 = some (9,.bool false,1,false) := Kr
theorem ld195 : ldI Ew.P 195 = some (3,true) := Kr
theorem Asa : fdI Ew.P 195 0 = some (0,2,true) := Kr
theorem Alc : fdI Ew.P 195 1 = some (2,1,false) := Kr
theorem bd195 : bdI Ew.P 195 = some ([.nil (.slice none 0 0),.nil (.slice none 0 0),.nil (.map none)],[(0,2),(2,1)]) := Kr
theorem Jw : ldI Ew.P 231 = some (1,false) := Kr
theorem E9 : ldI Ew.P 232 = some (1,false) := Kr
theorem Cz : mpI Ew.P 232 = some (9,.bool false,1,false) := Kr
theorem Agw : ldI Ew.P 233 = some (1,false) := Kr
theorem Acq : mpI Ew.P 233 = some (9,.str [],1,false) := Kr
theorem ld235 : ldI Ew.P 235 = some (5,true) := Kr
theorem Nk : fdI Ew.P 235 0 = some (0,1,false) := Kr
theorem Ii : fdI Ew.P 235 1 = some (1,1,false) := Kr
theorem Yf : fdI Ew.P 235 2 = some (2,1,false) := Kr
theorem Uk : fdI Ew.P 235 3 = some (3,1,false) := Kr
theorem Ald : fdI Ew.P 235 4 = some (4,1,false) := Kr
theorem bd235 : bdI Ew.P 235 = some ([.nil (.map none),.nil (.map none),.nil (.map none),.nil (.map none),.nil (.map none)],[(0,1),(1,1),(2,1),(3,1),(4,1)]) := Kr
theorem Acr : mpI Ew.P 238 = some (9,.nil (.map none),1,false) := Kr
theorem Ate : arI Ew.P 240 = some (2,1,false) := Kr
theorem ld254 : ldI Ew.P 254 = some (2,true) := Kr
theorem zi254 : zI Ew.P 254 = some [.str [],.nil (.slice none 0 0)] := Kr
theorem Asb : fdI Ew.P 254 1 = some (1,1,false) := Kr
theorem bd254 : bdI Ew.P 254 = some ([.str [],.nil (.slice none 0 0)],[(0,1),(1,1)]) := Kr
theorem App : ldI Ew.P 272 = some (2,true) := Kr
theorem zi272 : zI Ew.P 272 = some [.nil (.map none),.nil (.map none)] := Kr
theorem Ale : fdI Ew.P 272 0 = some (0,1,false) := Kr
theorem Aew : fdI Ew.P 272 1 = some (1,1,false) := Kr
theorem bd272 : bdI Ew.P 272 = some ([.nil (.map none),.nil (.map none)],[(0,1),(1,1)]) := Kr
theorem Atf : Fd Ew.P 298 = true := Kr
theorem Alf : elI Ew.P 298 = some (1,24,some [.nil (.slice none 0 0)]) := Kr
theorem Atg : Fd Ew.P 302 = true := Kr
theorem Alg : elI Ew.P 302 = some (1,24,some [.nil (.slice none 0 0)]) := Kr
theorem Jx : ldI Ew.P 305 = some (2,true) := Kr
theorem ok305 : okI Ew.P 305 = true := Kr
theorem Ath : zI Ew.P 305 = some [.str [],.str []] := Kr
theorem G8 : fdI Ew.P 305 0 = some (0,1,false) := Kr
theorem Ij : fdI Ew.P 305 1 = some (1,1,false) := Kr
theorem Xh : ldI Ew.P 312 = some (4,true) := Kr
theorem zi312 : zI Ew.P 312 = some [.int .i64 (0),.str [],.nil (.slice none 0 0),.nil (.slice none 0 0)] := Kr
theorem Nl : fdI Ew.P 312 0 = some (0,1,false) := Kr
theorem Aex : fdI Ew.P 312 1 = some (1,1,false) := Kr
theorem Nm : fdI Ew.P 312 2 = some (2,1,false) := Kr
theorem Ul : fdI Ew.P 312 3 = some (3,1,false) := Kr
theorem bd312 : bdI Ew.P 312 = some ([.int .i64 (0),.str [],.nil (.slice none 0 0),.nil (.slice none 0 0)],[(0,1),(1,1),(2,1),(3,1)]) := Kr
theorem Apq : Fd Ew.P 313 = true := Kr
theorem Apr : elI Ew.P 313 = some (4,72,some [.int .i64 (0),.str [],.nil (.slice none 0 0),.nil (.slice none 0 0)]) := Kr
theorem sl327 : Fd Ew.P 327 = true := Kr
theorem Aps : elI Ew.P 327 = some (1,1,some [.int .u8 (0)]) := Kr
theorem ld328 : ldI Ew.P 328 = some (256,true) := Kr
theorem zi328 : zI Ew.P 328 = some [.int .u8 (0),.int .u8 (0),.int .u8 (0),.int .u8 (0),.int .u8 (0),.int .u8 (0),.int .u8 (0),.int .u8 (0),.int .u8 (0),.int .u8 (0),.int .u8 (0),.int .u8 (0),.int .u8 (0),.int .u8 (0),.int .u8 (0),.int .u8 (0),.int .u8 (0),.int .u8 (0),.int .u8 (0),.int .u8 (0),.int .u8 (0),.int .u8 (0),.int .u8 (0),.int .u8 (0),.int .u8 (0),.int .u8 (0),.int .u8 (0),.int .u8 (0),.int .u8 (0),.int .u8 (0),.int .u8 (0),.int .u8 (0),.int .u8 (0),.int .u8 (0),.int .u8 (0),.int .u8 (0),.int .u8 (0),.int .u8 (0),.int .u8 (0),.int .u8 (0),.int .u8 (0),.int .u8 (0),.int .u8 (0),.int .u8 (0),.int .u8 (0),.int .u8 (0),.int .u8 (0),.int .u8 (0),.int .u8 (0),.int .u8 (0),.int .u8 (0),.int .u8 (0),.int .u8 (0),.int .u8 (0),.int .u8 (0),.int .u8 (0),.int .u8 (0),.int .u8 (0),.int .u8 (0),.int .u8 (0),.int .u8 (0),.int .u8 (0),.int .u8 (0),.int .u8 (0),.int .u8 (0),.int .u8 (0),.int .u8 (0),.int .u8 (0),.int .u8 (0),.int .u8 (0),.int .u8 (0),.int .u8 (0),.int .u8 (0),.int .u8 (0),.int .u8 (0),.int .u8 (0),.int .u8 (0),.int .u8 (0),.int .u8 (0),.int .u8 (0),.int .u8 (0),.int .u8 (0),.int .u8 (0),.int .u8 (0),.int .u8 (0),.int .u8 (0),.int .u8 (0),.int .u8 (0),.int .u8 (0),.int .u8 (0),.int .u8 (0),.int .u8 (0),.int .u8 (0),.int .u8 (0),.int .u8 (0),.int .u8 (0),.int .u8 (0),.int .u8 (0),.int .u8 (0),.int .u8 (0),.int .u8 (0),.int .u8 (0),.int .u8 (0),.int .u8 (0),.int .u8 (0),.int .u8 (0),.int .u8 (0),.int .u8 (0),.int .u8 (0),.int .u8 (0),.int .u8 (0),.int .u8 (0),.int .u8 (0),.int .u8 (0),.int .u8 (0),.int .u8 (0),.int .u8 (0),.int .u8 (0),.int .u8 (0),.int .u8 (0),.int .u8 (0),.int .u8 (0),.int .u8 (0),.int .u8 (0),.int .u8 (0),.int .u8 (0),.int .u8 (0),.int .u8 (0),.int .u8 (0),.int .u8 (0),.int .u8 (0),.int .u8 (0),.int .u8 (0),.int .u8 (0),.int .u8 (0),.int .u8 (0),.int .u8 (0),.int .u8 (0),.int .u8 (0),.int .u8 (0),.int .u8 (0),.int .u8 (0),.int .u8 (0),.int .u8 (0),.int .u8 (0),.int .u8 (0),.int .u8 (0),.int .u8 (0),.int .u8 (0),.int .u8 (0),.int .u8 (0),.int .u8 (0),.int .u8 (0),.int .u8 (0),.int .u8 (0),.int .u8 (0),.int .u8 (0),.int .u8 (0),.int .u8 (0),.int .u8 (0),.int .u8 (0),.int .u8 (0),.int .u8 (0),.int .u8 (0),.int .u8 (0),.int .u8 (0),.int .u8 (0),.int .u8 (0),.int .u8 (0),.int .u8 (0),.int .u8 (0),.int .u8 (0),.int .u8 (0),.int .u8 (0),.int .u8 (0),.int .u8 (0),.int .u8 (0),.int .u8 (0),.int .u8 (0),.int .u8 (0),.int .u8 (0),.int .u8 (0),.int .u8 (0),.int .u8 (0),.int .u8 (0),.int .u8 (0),.int .u8 (0),.int .u8 (0),.int .u8 (0),.int .u8 (0),.int .u8 (0),.int .u8 (0),.int .u8 (0),.int .u8 (0),.int .u8 (0),.int .u8 (0),.int .u8 (0),.int .u8 (0),.int .u8 (0),.int .u8 (0),.int .u8 (0),.int .u8 (0),.int .u8 (0),.int .u8 (0),.int .u8 (0),.int .u8 (0),.int .u8 (0),.int .u8 (0),.int .u8 (0),.int .u8 (0),.int .u8 (0),.int .u8 (0),.int .u8 (0),.int .u8 (0),.int .u8 (0),.int .u8 (0),.int .u8 (0),.int .u8 (0),.int .u8 (0),.int .u8 (0),.int .u8 (0),.int .u8 (0),.int .u8 (0),.int .u8 (0),.int .u8 (0),.int .u8 (0),.int .u8 (0),.int .u8 (0),.int .u8 (0),.int .u8 (0),.int .u8 (0),.int .u8 (0),.int .u8 (0),.int .u8 (0),.int .u8 (0),.int .u8 (0),.int .u8 (0),.int .u8 (0),.int .u8 (0),.int .u8 (0),.int .u8 (0),.int .u8 (0),.int .u8 (0),.int .u8 (0),.int .u8 (0),.int .u8 (0),.int .u8 (0),.int .u8 (0),.int .u8 (0),.int .u8 (0),.int .u8 (0),.int .u8 (0),.int .u8 (0),.int .u8 (0),.int .u8 (0),.int .u8 (0)] := Kr
theorem ar328 : arI Ew.P 328 = some (256,1,false) := Kr
theorem Alh : ldI Ew.P 347 = some (4,true) := Kr
theorem Ati : zI Ew.P 347 = some [.str [],.bool false,.int .i64 (0),.int .i64 (0)] := Kr
theorem Asc : fdI Ew.P 347 0 = some (0,1,false) := Kr
theorem Aey : fdI Ew.P 347 1 = some (1,1,false) := Kr
theorem Asd : fdI Ew.P 347 2 = some (2,1,false) := Kr
theorem Ali : fdI Ew.P 347 3 = some (3,1,false) := Kr
theorem Atj : arI Ew.P 348 = some (10,4,true) := Kr
theorem f37 (p : Fr -> Bool) (l : List Fr) (k : Nat) (cap : List AV) (J : Sto) (hb : l.length < 4611686018427387904) (hk : ∀ a ∈ l,A6 Ew k ([.agg (eF a)] ++ cap) J fun v J' => v = .bool (p a) /\ J' = J) :
  Cv 37 [slV eF 8 l,.fn (.func k) [] cap] J (iV (A7 p l 0)) := by
 refine Az Tryz.func37 rfl rfl fun hw hu => ?_
 refine Ac (Aa (OA rfl (Ab (Ac (Ac (Aa (OM rfl ?_)))))));refine O1 (Aq Aji rfl) (OM rfl (Ab (Am ?_)));refine B8 l.length (fun i => [(0,slV eF 8 l),(1,.fn (.func k) [] cap),(7,iV (.ofNat l.length)),(8,iV (.ofNat i))]) (fun i J' => J' = J /\ A7 p l 0 = A7 p (l.drop i) i) SL ⟨rfl,rfl⟩ ?_
 rintro i J' hi ⟨rfl,hf⟩;refine Ac (Aa (O1 (A8 ok3 rfl rfl) (Ab (Ac ?_))));refine Ah rfl ?_ ?_ <;> intro h
 ·have hlt : i < l.length := by simpa using h
  obtain ⟨a,ha⟩ : ∃ a,l[i]? = some a := ⟨_,ao_ hlt⟩
  have hd : l.drop i = a :: l.drop (i + 1) := by
   obtain ⟨h1,rfl⟩ := ae_.1 ha;exact b_ h1
  refine Ai (Ac (Am (Ac (Aa (OM rfl (OA rfl (Ab ?_)))))));refine Ac (Aa (OM rfl (OM rfl (OM rfl (O1 (Ax el23 (fun _ => rfl) rfl rfl ha) ?_)))))
  refine O1 (Ae Qf rfl rfl (Cj ((fun _ => rfl : ∀ a,(eF a).length = 8) a) _)) ?_
  refine B4 rfl rfl rfl rfl (hk a (af_ ha)) ?_;rintro _ _ ⟨rfl,rfl⟩;refine Ab ?_;refine Ah rfl (fun h' => ?_) (fun h' => ?_)
  ·refine Ac (Aa (OM rfl (OA rfl (Ab ?_))));refine An ?_;refine ⟨_,rfl,iV (.ofNat i),_,ag_ hw nl (fun _ _ => rfl),nl,.same rfl,?_,rfl⟩
   rw [hf,hd]; simp only [A7,h',cond_true]
  ·refine Ai (Aa (O1 (Ay (p := i) (q := 1) ok3 rfl rfl Om) ?_));refine OM rfl (Ab ?_);refine ⟨hlt,SL,rfl,?_⟩;rw [hf,hd]; simp only [A7,h',cond_false]
 ·have hge : l.length <= i := by simpa using h
  refine Ba ?_;refine Ac (Aa (OA rfl (Ab ?_)));refine An ?_;refine ⟨_,rfl,iV (-1),_,ag_ hw nl (fun _ _ => rfl),nl,.same rfl,?_,rfl⟩
  rw [hf,ah_ hge]; rfl
theorem f11 (p : Fr -> Bool) (l : List Fr) (k : Nat) (cap : List AV) (J : Sto) (hb : l.length < 4611686018427387904) (hk : ∀ a ∈ l,A6 Ew k ([.agg (eF a)] ++ cap) J fun v J' => v = .bool (p a) /\ J' = J) :
  Cv 11 [slV eF 8 l,.fn (.func k) [] cap] J (.bool (l.any p)) := by
 refine Az Tryz.func11 rfl rfl fun hw _ => ?_
 refine Ac (Aa (OA rfl (Ab (Ac (Aa (OM rfl (OM rfl ?_)))))));refine B4 rfl rfl rfl rfl (f37 p l k cap J hb hk) ?_;rintro _ _ ⟨rfl,rfl⟩;refine O1 (Eq ok3 rfl rfl) (OA rfl (Ab ?_));refine An (Bq hw rfl ?_);exact congrArg AV.bool (E5 l)
theorem f38 (p : Hp -> Bool) (l : List Hp) (k : Nat) (cap : List AV) (J : Sto) (hb : l.length < 4611686018427387904) (hk : ∀ a ∈ l,A6 Ew k ([.agg (eH a)] ++ cap) J fun v J' => v = .bool (p a) /\ J' = J) :
  Cv 38 [slV eH 3 l,.fn (.func k) [] cap] J (iV (A7 p l 0)) := by
 refine Az Tryz.func38 rfl rfl fun hw hu => ?_
 refine Ac (Aa (OA rfl (Ab (Ac (Ac (Aa (OM rfl ?_)))))));refine O1 (Aq F3 rfl) (OM rfl (Ab (Am ?_)));refine B8 l.length (fun i => [(0,slV eH 3 l),(1,.fn (.func k) [] cap),(7,iV (.ofNat l.length)),(8,iV (.ofNat i))]) (fun i J' => J' = J /\ A7 p l 0 = A7 p (l.drop i) i) SL ⟨rfl,rfl⟩ ?_
 rintro i J' hi ⟨rfl,hf⟩;refine Ac (Aa (O1 (A8 ok3 rfl rfl) (Ab (Ac ?_))));refine Ah rfl ?_ ?_ <;> intro h
 ·have hlt : i < l.length := by simpa using h
  obtain ⟨a,ha⟩ : ∃ a,l[i]? = some a := ⟨_,ao_ hlt⟩
  have hd : l.drop i = a :: l.drop (i + 1) := by
   obtain ⟨h1,rfl⟩ := ae_.1 ha;exact b_ h1
  refine Ai (Ac (Am (Ac (Aa (OM rfl (OA rfl (Ab ?_)))))));refine Ac (Aa (OM rfl (OM rfl (OM rfl (O1 (Ax Ih (fun _ => rfl) rfl rfl ha) ?_)))))
  refine O1 (Ae D2 rfl rfl (Cj ((fun _ => rfl : ∀ a,(eH a).length = 3) a) _)) ?_
  refine B4 rfl rfl rfl rfl (hk a (af_ ha)) ?_;rintro _ _ ⟨rfl,rfl⟩;refine Ab ?_;refine Ah rfl (fun h' => ?_) (fun h' => ?_)
  ·refine Ac (Aa (OM rfl (OA rfl (Ab ?_))));refine An ?_;refine ⟨_,rfl,iV (.ofNat i),_,ag_ hw nl (fun _ _ => rfl),nl,.same rfl,?_,rfl⟩
   rw [hf,hd]; simp only [A7,h',cond_true]
  ·refine Ai (Aa (O1 (Ay (p := i) (q := 1) ok3 rfl rfl Om) ?_));refine OM rfl (Ab ?_);refine ⟨hlt,SL,rfl,?_⟩;rw [hf,hd]; simp only [A7,h',cond_false]
 ·have hge : l.length <= i := by simpa using h
  refine Ba ?_;refine Ac (Aa (OA rfl (Ab ?_)));refine An ?_;refine ⟨_,rfl,iV (-1),_,ag_ hw nl (fun _ _ => rfl),nl,.same rfl,?_,rfl⟩
  rw [hf,ah_ hge]; rfl
theorem f14 (p : Hp -> Bool) (l : List Hp) (k : Nat) (cap : List AV) (J : Sto) (hb : l.length < 4611686018427387904) (hk : ∀ a ∈ l,A6 Ew k ([.agg (eH a)] ++ cap) J fun v J' => v = .bool (p a) /\ J' = J) :
  Cv 14 [slV eH 3 l,.fn (.func k) [] cap] J (.bool (l.any p)) := by
 refine Az Tryz.func14 rfl rfl fun hw _ => ?_
 refine Ac (Aa (OA rfl (Ab (Ac (Aa (OM rfl (OM rfl ?_)))))));refine B4 rfl rfl rfl rfl (f38 p l k cap J hb hk) ?_;rintro _ _ ⟨rfl,rfl⟩;refine O1 (Eq ok3 rfl rfl) (OA rfl (Ab ?_));refine An (Bq hw rfl ?_);exact congrArg AV.bool (E5 l)
theorem f39 (p : Str -> Bool) (l : List Str) (k : Nat) (cap : List AV) (J : Sto) (hb : l.length < 4611686018427387904) (hk : ∀ a ∈ l,A6 Ew k ([sV a] ++ cap) J fun v J' => v = .bool (p a) /\ J' = J) :
  Cv 39 [slV (fun s => [sV s]) 1 l,.fn (.func k) [] cap] J (iV (A7 p l 0)) := by
 refine Az Tryz.func39 rfl rfl fun hw hu => ?_
 refine Ac (Aa (OA rfl (Ab (Ac (Ac (Aa (OM rfl ?_)))))));refine O1 (Aq Ee rfl) (OM rfl (Ab (Am ?_)));refine B8 l.length (fun i => [(0,slV (fun s => [sV s]) 1 l),(1,.fn (.func k) [] cap),(7,iV (.ofNat l.length)),(8,iV (.ofNat i))]) (fun i J' => J' = J /\ A7 p l 0 = A7 p (l.drop i) i) SL ⟨rfl,rfl⟩ ?_
 rintro i J' hi ⟨rfl,hf⟩;refine Ac (Aa (O1 (A8 ok3 rfl rfl) (Ab (Ac ?_))));refine Ah rfl ?_ ?_ <;> intro h
 ·have hlt : i < l.length := by simpa using h
  obtain ⟨a,ha⟩ : ∃ a,l[i]? = some a := ⟨_,ao_ hlt⟩
  have hd : l.drop i = a :: l.drop (i + 1) := by
   obtain ⟨h1,rfl⟩ := ae_.1 ha;exact b_ h1
  refine Ai (Ac (Am (Ac (Aa (OM rfl (OA rfl (Ab ?_)))))));refine Ac (Aa (OM rfl (OM rfl (OM rfl (O1 (Ax Da (fun _ => rfl) rfl rfl ha) ?_)))))
  refine O1 (Ae ld9 rfl rfl rfl) (B4 rfl rfl rfl rfl (hk a (af_ ha)) ?_);rintro _ _ ⟨rfl,rfl⟩;refine Ab ?_;refine Ah rfl (fun h' => ?_) (fun h' => ?_)
  ·refine Ac (Aa (OM rfl (OA rfl (Ab ?_))));refine An ?_;refine ⟨_,rfl,iV (.ofNat i),_,ag_ hw nl (fun _ _ => rfl),nl,.same rfl,?_,rfl⟩
   rw [hf,hd]; simp only [A7,h',cond_true]
  ·refine Ai (Aa (O1 (Ay (p := i) (q := 1) ok3 rfl rfl Om) ?_));refine OM rfl (Ab ?_);refine ⟨hlt,SL,rfl,?_⟩;rw [hf,hd]; simp only [A7,h',cond_false]
 ·have hge : l.length <= i := by simpa using h
  refine Ba ?_;refine Ac (Aa (OA rfl (Ab ?_)));refine An ?_;refine ⟨_,rfl,iV (-1),_,ag_ hw nl (fun _ _ => rfl),nl,.same rfl,?_,rfl⟩
  rw [hf,ah_ hge]; rfl
theorem f15 (p : Str -> Bool) (l : List Str) (k : Nat) (cap : List AV) (J : Sto) (hb : l.length < 4611686018427387904) (hk : ∀ a ∈ l,A6 Ew k ([sV a] ++ cap) J fun v J' => v = .bool (p a) /\ J' = J) :
  Cv 15 [slV (fun s => [sV s]) 1 l,.fn (.func k) [] cap] J (.bool (l.any p)) := by
 refine Az Tryz.func15 rfl rfl fun hw _ => ?_
 refine Ac (Aa (OA rfl (Ab (Ac (Aa (OM rfl (OM rfl ?_)))))));refine B4 rfl rfl rfl rfl (f39 p l k cap J hb hk) ?_;rintro _ _ ⟨rfl,rfl⟩;refine O1 (Eq ok3 rfl rfl) (OA rfl (Ab ?_));refine An (Bq hw rfl ?_);exact congrArg AV.bool (E5 l)
theorem f72 (p : Rl -> Bool) (l : List Rl) (k : Nat) (cap : List AV) (J : Sto) (hb : l.length < 4611686018427387904) (hk : ∀ a ∈ l,A6 Ew k ([.agg (eR a)] ++ cap) J fun v J' => v = .bool (p a) /\ J' = J) :
  Cv 72 [slV eR 4 l,.fn (.func k) [] cap] J (iV (A7 p l 0)) := by
 refine Az Tryz.func72 rfl rfl fun hw hu => ?_
 refine Ac (Aa (OA rfl (Ab (Ac (Ac (Aa (OM rfl ?_)))))));refine O1 (Aq X0 rfl) (OM rfl (Ab (Am ?_)));refine B8 l.length (fun i => [(0,slV eR 4 l),(1,.fn (.func k) [] cap),(7,iV (.ofNat l.length)),(8,iV (.ofNat i))]) (fun i J' => J' = J /\ A7 p l 0 = A7 p (l.drop i) i) SL ⟨rfl,rfl⟩ ?_
 rintro i J' hi ⟨rfl,hf⟩;refine Ac (Aa (O1 (A8 ok3 rfl rfl) (Ab (Ac ?_))));refine Ah rfl ?_ ?_ <;> intro h
 ·have hlt : i < l.length := by simpa using h
  obtain ⟨a,ha⟩ : ∃ a,l[i]? = some a := ⟨_,ao_ hlt⟩
  have hd : l.drop i = a :: l.drop (i + 1) := by
   obtain ⟨h1,rfl⟩ := ae_.1 ha;exact b_ h1
  refine Ai (Ac (Am (Ac (Aa (OM rfl (OA rfl (Ab ?_)))))));refine Ac (Aa (OM rfl (OM rfl (OM rfl (O1 (Ax La (fun _ => rfl) rfl rfl ha) ?_)))))
  refine O1 (Ae Ey rfl rfl (Cj ((fun _ => rfl : ∀ a,(eR a).length = 4) a) _)) ?_
  refine B4 rfl rfl rfl rfl (hk a (af_ ha)) ?_;rintro _ _ ⟨rfl,rfl⟩;refine Ab ?_;refine Ah rfl (fun h' => ?_) (fun h' => ?_)
  ·refine Ac (Aa (OM rfl (OA rfl (Ab ?_))));refine An ?_;refine ⟨_,rfl,iV (.ofNat i),_,ag_ hw nl (fun _ _ => rfl),nl,.same rfl,?_,rfl⟩
   rw [hf,hd]; simp only [A7,h',cond_true]
  ·refine Ai (Aa (O1 (Ay (p := i) (q := 1) ok3 rfl rfl Om) ?_));refine OM rfl (Ab ?_);refine ⟨hlt,SL,rfl,?_⟩;rw [hf,hd]; simp only [A7,h',cond_false]
 ·have hge : l.length <= i := by simpa using h
  refine Ba ?_;refine Ac (Aa (OA rfl (Ab ?_)));refine An ?_;refine ⟨_,rfl,iV (-1),_,ag_ hw nl (fun _ _ => rfl),nl,.same rfl,?_,rfl⟩
  rw [hf,ah_ hge]; rfl
theorem f93 (p : Rl -> Bool) (l : List Rl) (k : Nat) (cap : List AV) (J : Sto) (hb : l.length < 4611686018427387904) (hk : ∀ a ∈ l,A6 Ew k ([.agg (eR a)] ++ cap) J fun v J' => v = .bool (p a) /\ J' = J) :
  Cv 93 [slV eR 4 l,.fn (.func k) [] cap] J (.bool (l.any p)) := by
 refine Az Tryz.func93 rfl rfl fun hw _ => ?_
 refine Ac (Aa (OA rfl (Ab (Ac (Aa (OM rfl (OM rfl ?_)))))));refine B4 rfl rfl rfl rfl (f72 p l k cap J hb hk) ?_;rintro _ _ ⟨rfl,rfl⟩;refine O1 (Eq ok3 rfl rfl) (OA rfl (Ab ?_));refine An (Bq hw rfl ?_);exact congrArg AV.bool (E5 l)
theorem f149 (p : Pt -> Bool) (l : List Pt) (k : Nat) (cap : List AV) (J : Sto) (hb : l.length < 4611686018427387904) (hk : ∀ a ∈ l,A6 Ew k ([.agg (ePt a)] ++ cap) J fun v J' => v = .bool (p a) /\ J' = J) :
  Cv 149 [slV ePt 3 l,.fn (.func k) [] cap] J (iV (A7 p l 0)) := by
 refine Az Tryz.func149 rfl rfl fun hw hu => ?_
 refine Ac (Aa (OA rfl (Ab (Ac (Ac (Aa (OM rfl ?_)))))));refine O1 (Aq Ags rfl) (OM rfl (Ab (Am ?_)));refine B8 l.length (fun i => [(0,slV ePt 3 l),(1,.fn (.func k) [] cap),(7,iV (.ofNat l.length)),(8,iV (.ofNat i))]) (fun i J' => J' = J /\ A7 p l 0 = A7 p (l.drop i) i) SL ⟨rfl,rfl⟩ ?_
 rintro i J' hi ⟨rfl,hf⟩;refine Ac (Aa (O1 (A8 ok3 rfl rfl) (Ab (Ac ?_))));refine Ah rfl ?_ ?_ <;> intro h
 ·have hlt : i < l.length := by simpa using h
  obtain ⟨a,ha⟩ : ∃ a,l[i]? = some a := ⟨_,ao_ hlt⟩
  have hd : l.drop i = a :: l.drop (i + 1) := by
   obtain ⟨h1,rfl⟩ := ae_.1 ha;exact b_ h1
  refine Ai (Ac (Am (Ac (Aa (OM rfl (OA rfl (Ab ?_)))))));refine Ac (Aa (OM rfl (OM rfl (OM rfl (O1 (Ax Abp (fun _ => rfl) rfl rfl ha) ?_)))))
  refine O1 (Ae Ox rfl rfl (Cj ((fun _ => rfl : ∀ a,(ePt a).length = 3) a) _)) ?_
  refine B4 rfl rfl rfl rfl (hk a (af_ ha)) ?_;rintro _ _ ⟨rfl,rfl⟩;refine Ab ?_;refine Ah rfl (fun h' => ?_) (fun h' => ?_)
  ·refine Ac (Aa (OM rfl (OA rfl (Ab ?_))));refine An ?_;refine ⟨_,rfl,iV (.ofNat i),_,ag_ hw nl (fun _ _ => rfl),nl,.same rfl,?_,rfl⟩
   rw [hf,hd]; simp only [A7,h',cond_true]
  ·refine Ai (Aa (O1 (Ay (p := i) (q := 1) ok3 rfl rfl Om) ?_));refine OM rfl (Ab ?_);refine ⟨hlt,SL,rfl,?_⟩;rw [hf,hd]; simp only [A7,h',cond_false]
 ·have hge : l.length <= i := by simpa using h
  refine Ba ?_;refine Ac (Aa (OA rfl (Ab ?_)));refine An ?_;refine ⟨_,rfl,iV (-1),_,ag_ hw nl (fun _ _ => rfl),nl,.same rfl,?_,rfl⟩
  rw [hf,ah_ hge]; rfl
theorem f115 (p : Pt -> Bool) (l : List Pt) (k : Nat) (cap : List AV) (J : Sto) (hb : l.length < 4611686018427387904) (hk : ∀ a ∈ l,A6 Ew k ([.agg (ePt a)] ++ cap) J fun v J' => v = .bool (p a) /\ J' = J) :
  Cv 115 [slV ePt 3 l,.fn (.func k) [] cap] J (.bool (l.any p)) := by
 refine Az Tryz.func115 rfl rfl fun hw _ => ?_
 refine Ac (Aa (OA rfl (Ab (Ac (Aa (OM rfl (OM rfl ?_)))))));refine B4 rfl rfl rfl rfl (f149 p l k cap J hb hk) ?_;rintro _ _ ⟨rfl,rfl⟩;refine O1 (Eq ok3 rfl rfl) (OA rfl (Ab ?_));refine An (Bq hw rfl ?_);exact congrArg AV.bool (E5 l)
theorem f198 (p : Pr -> Bool) (l : List Pr) (k : Nat) (cap : List AV) (J : Sto) (hb : l.length < 4611686018427387904) (hk : ∀ a ∈ l,A6 Ew k ([.agg (eP a)] ++ cap) J fun v J' => v = .bool (p a) /\ J' = J) :
  Cv 198 [slV eP 2 l,.fn (.func k) [] cap] J (iV (A7 p l 0)) := by
 refine Az Tryz.func198 rfl rfl fun hw hu => ?_
 refine Ac (Aa (OA rfl (Ab (Ac (Ac (Aa (OM rfl ?_)))))));refine O1 (Aq Aak rfl) (OM rfl (Ab (Am ?_)));refine B8 l.length (fun i => [(0,slV eP 2 l),(1,.fn (.func k) [] cap),(7,iV (.ofNat l.length)),(8,iV (.ofNat i))]) (fun i J' => J' = J /\ A7 p l 0 = A7 p (l.drop i) i) SL ⟨rfl,rfl⟩ ?_
 rintro i J' hi ⟨rfl,hf⟩;refine Ac (Aa (O1 (A8 ok3 rfl rfl) (Ab (Ac ?_))));refine Ah rfl ?_ ?_ <;> intro h
 ·have hlt : i < l.length := by simpa using h
  obtain ⟨a,ha⟩ : ∃ a,l[i]? = some a := ⟨_,ao_ hlt⟩
  have hd : l.drop i = a :: l.drop (i + 1) := by
   obtain ⟨h1,rfl⟩ := ae_.1 ha;exact b_ h1
  refine Ai (Ac (Am (Ac (Aa (OM rfl (OA rfl (Ab ?_)))))));refine Ac (Aa (OM rfl (OM rfl (OM rfl (O1 (Ax We (fun _ => rfl) rfl rfl ha) ?_)))))
  refine O1 (Ae Jx rfl rfl (Cj ((fun _ => rfl : ∀ a,(eP a).length = 2) a) _)) ?_
  refine B4 rfl rfl rfl rfl (hk a (af_ ha)) ?_;rintro _ _ ⟨rfl,rfl⟩;refine Ab ?_;refine Ah rfl (fun h' => ?_) (fun h' => ?_)
  ·refine Ac (Aa (OM rfl (OA rfl (Ab ?_))));refine An ?_;refine ⟨_,rfl,iV (.ofNat i),_,ag_ hw nl (fun _ _ => rfl),nl,.same rfl,?_,rfl⟩
   rw [hf,hd]; simp only [A7,h',cond_true]
  ·refine Ai (Aa (O1 (Ay (p := i) (q := 1) ok3 rfl rfl Om) ?_));refine OM rfl (Ab ?_);refine ⟨hlt,SL,rfl,?_⟩;rw [hf,hd]; simp only [A7,h',cond_false]
 ·have hge : l.length <= i := by simpa using h
  refine Ba ?_;refine Ac (Aa (OA rfl (Ab ?_)));refine An ?_;refine ⟨_,rfl,iV (-1),_,ag_ hw nl (fun _ _ => rfl),nl,.same rfl,?_,rfl⟩
  rw [hf,ah_ hge]; rfl
end Go.AM
