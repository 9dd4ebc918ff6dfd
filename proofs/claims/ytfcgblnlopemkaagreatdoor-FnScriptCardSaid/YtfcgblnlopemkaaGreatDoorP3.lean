/- Texts of the proof, packed: part 4. -/
import Derived.Test.YtfcgblnlopemkaaGreatDoorP2
import Derived.Test.YtfcgblnlopemkaaGreatDoorProg
import Derived.IntWalk
set_option linter.unusedVariables false
set_option linter.unusedSimpArgs false
namespace Go.Proofs.YtfcgblnlopemkaaGreatDoor.Core
open Go IntKind
set_option maxRecDepth 100000
noncomputable section
def AEm:Go.Shelf.Ren:=⟨fun | 156=>17 | 165=>42 | 166=>16 | 169=>20 | 240=>41 | 241=>82 | 276=>81 | 277=>110 | n=>n,fun | 22=>40 | 28=>37 | 31=>50 | 37=>24 | 45=>101 | 67=>58 | 68=>65 | 69=>22 | 70=>51 | 71=>52 | 72=>53 | 74=>54 | 75=>55 | 76=>56 | 77=>57 | 80=>61 | 83=>31 | 104=>23 | 113=>118 | 114=>108 | 127=>88 | 131=>99 | 164=>121 | 211=>80 | n=>n,fun | 1=>0 | 3=>2 | 4=>3 | 17=>1 | 18=>4 | 19=>5 | n=>n⟩
theorem AF6:Lays.n156 Tryz.prog AEm:={
 mixed:=by kernel_rfl
 f156:=Tryz.func17.trans (congrArg some (by kernel_rfl))
 f165:=Tryz.func42.trans (congrArg some (by kernel_rfl))
 f166:=Tryz.func16.trans (congrArg some (by kernel_rfl))
 f169:=Tryz.func20.trans (congrArg some (by kernel_rfl))
 f240:=Tryz.func41.trans (congrArg some (by kernel_rfl))
 f241:=Tryz.func82.trans (congrArg some (by kernel_rfl))
 f276:=Tryz.func81.trans (congrArg some (by kernel_rfl))
 f277:=Tryz.func110.trans (congrArg some (by kernel_rfl))
 t0:=Tryz.underlying0
 a0:=Tryz.isAgg0
 z0:=Tryz.sizeOf0
 v0:=Tryz.zeroValue0
 t3:=Tryz.underlying3
 a3:=Tryz.isAgg3
 z3:=Tryz.sizeOf3
 v3:=Tryz.zeroValue3
 t4:=Tryz.underlying4
 a4:=Tryz.isAgg4
 z4:=Tryz.sizeOf4
 v4:=Tryz.zeroValue4
 t9:=Tryz.underlying9
 a9:=Tryz.isAgg9
 z9:=Tryz.sizeOf9
 v9:=Tryz.zeroValue9
 t20:=Tryz.underlying20
 a20:=Tryz.isAgg20
 z20:=Tryz.sizeOf20
 v20:=Tryz.zeroValue20
 t31:=Tryz.underlying50
 a31:=Tryz.isAgg50
 z31:=Tryz.sizeOf50
 v31:=Tryz.zeroValue50
 t37:=Tryz.underlying24
 a37:=Tryz.isAgg24
 z37:=Tryz.sizeOf24
 v37:=Tryz.zeroValue24
 t70:=Tryz.underlying51
 a70:=Tryz.isAgg51
 z70:=Tryz.sizeOf51
 v70:=Tryz.zeroValue51
 t72:=Tryz.underlying53
 a72:=Tryz.isAgg53
 z72:=Tryz.sizeOf53
 v72:=Tryz.zeroValue53
 t75:=Tryz.underlying55
 a75:=Tryz.isAgg55
 z75:=Tryz.sizeOf55
 v75:=Tryz.zeroValue55
 t76:=Tryz.underlying56
 a76:=Tryz.isAgg56
 z76:=Tryz.sizeOf56
 v76:=Tryz.zeroValue56
 t127:=Tryz.underlying88
 a127:=Tryz.isAgg88
 z127:=Tryz.sizeOf88
 v127:=Tryz.zeroValue88
 t164:=Tryz.underlying121
 a164:=Tryz.isAgg121
 z164:=Tryz.sizeOf121
 v164:=Tryz.zeroValue121 }
theorem AG2:Builder.Extra Tryz.prog AEm:={
 sizeBuilder:=by kernel_rfl
 liesBuilder:=by kernel_rfl
 t5:=Tryz.underlying5
 a5:=Tryz.isAgg5
 z5:=Tryz.sizeOf5
 v5:=Tryz.zeroValue5
 infoByte:=by kernel_rfl
 cellsByte:=by kernel_rfl
 sizeByte:=by kernel_rfl
 neB5:=by decide }
def AG3:Go.Shelf.Ren:=⟨fun | 138=>103 | 143=>104 | 146=>38 | 195=>132 | 197=>133 | 217=>153 | 218=>134 | 219=>135 | 221=>75 | 224=>155 | 225=>154 | 260=>152 | 266=>181 | 267=>156 | 268=>102 | 314=>182 | n=>n,fun | 22=>40 | 28=>37 | 29=>126 | 30=>127 | 31=>50 | 35=>153 | 37=>24 | 45=>101 | 46=>151 | 51=>185 | 61=>84 | 67=>58 | 68=>65 | 69=>22 | 70=>51 | 71=>52 | 72=>53 | 73=>87 | 74=>54 | 75=>55 | 76=>56 | 77=>57 | 80=>61 | 83=>31 | 104=>23 | 105=>167 | 111=>106 | 112=>191 | 113=>118 | 114=>108 | 119=>201 | 127=>88 | 131=>99 | 138=>203 | 139=>204 | 146=>205 | 164=>121 | 165=>122 | 211=>80 | 230=>219 | 239=>223 | 240=>224 | 242=>226 | 244=>229 | 246=>231 | 247=>232 | 248=>233 | 249=>234 | n=>n,fun | 1=>0 | 3=>2 | 4=>3 | 17=>1 | 18=>4 | 19=>5 | n=>n⟩
theorem AF7:Lays.n146 Tryz.prog AG3:={
 mixed:=by kernel_rfl
 f138:=Tryz.func103.trans (congrArg some (by kernel_rfl))
 f143:=Tryz.func104.trans (congrArg some (by kernel_rfl))
 f146:=Tryz.func38.trans (congrArg some (by kernel_rfl))
 f195:=Tryz.func132.trans (congrArg some (by kernel_rfl))
 f197:=Tryz.func133.trans (congrArg some (by kernel_rfl))
 f217:=Tryz.func153.trans (congrArg some (by kernel_rfl))
 f218:=Tryz.func134.trans (congrArg some (by kernel_rfl))
 f219:=Tryz.func135.trans (congrArg some (by kernel_rfl))
 f221:=Tryz.func75.trans (congrArg some (by kernel_rfl))
 f224:=Tryz.func155.trans (congrArg some (by kernel_rfl))
 f225:=Tryz.func154.trans (congrArg some (by kernel_rfl))
 f260:=Tryz.func152.trans (congrArg some (by kernel_rfl))
 f266:=Tryz.func181.trans (congrArg some (by kernel_rfl))
 f267:=Tryz.func156.trans (congrArg some (by kernel_rfl))
 f268:=Tryz.func102.trans (congrArg some (by kernel_rfl))
 f314:=Tryz.func182.trans (congrArg some (by kernel_rfl))
 t0:=Tryz.underlying0
 a0:=Tryz.isAgg0
 z0:=Tryz.sizeOf0
 v0:=Tryz.zeroValue0
 t3:=Tryz.underlying3
 a3:=Tryz.isAgg3
 z3:=Tryz.sizeOf3
 v3:=Tryz.zeroValue3
 t4:=Tryz.underlying4
 a4:=Tryz.isAgg4
 z4:=Tryz.sizeOf4
 v4:=Tryz.zeroValue4
 t5:=Tryz.underlying5
 a5:=Tryz.isAgg5
 z5:=Tryz.sizeOf5
 v5:=Tryz.zeroValue5
 t9:=Tryz.underlying9
 a9:=Tryz.isAgg9
 z9:=Tryz.sizeOf9
 v9:=Tryz.zeroValue9
 t21:=Tryz.underlying21
 a21:=Tryz.isAgg21
 z21:=Tryz.sizeOf21
 v21:=Tryz.zeroValue21
 t31:=Tryz.underlying50
 a31:=Tryz.isAgg50
 z31:=Tryz.sizeOf50
 v31:=Tryz.zeroValue50
 t46:=Tryz.underlying151
 a46:=Tryz.isAgg151
 z46:=Tryz.sizeOf151
 v46:=Tryz.zeroValue151
 t51:=Tryz.underlying185
 a51:=Tryz.isAgg185
 z51:=Tryz.sizeOf185
 v51:=Tryz.zeroValue185
 t105:=Tryz.underlying167
 a105:=Tryz.isAgg167
 z105:=Tryz.sizeOf167
 v105:=Tryz.zeroValue167
 t119:=Tryz.underlying201
 a119:=Tryz.isAgg201
 z119:=Tryz.sizeOf201
 t138:=Tryz.underlying203
 a138:=Tryz.isAgg203
 z138:=Tryz.sizeOf203
 v138:=Tryz.zeroValue203
 t139:=Tryz.underlying204
 a139:=Tryz.isAgg204
 z139:=Tryz.sizeOf204
 v139:=Tryz.zeroValue204
 t146:=Tryz.underlying205
 a146:=Tryz.isAgg205
 z146:=Tryz.sizeOf205
 v146:=Tryz.zeroValue205
 g1:=by kernel_rfl
 g3:=by kernel_rfl
 g4:=by kernel_rfl }
def AG4:Go.Shelf.Ren:=⟨fun | 129=>158 | 171=>40 | 243=>80 | 246=>109 | 283=>136 | 284=>137 | 285=>138 | 286=>139 | 317=>157 | 318=>159 | 319=>160 | 320=>161 | 337=>183 | 338=>184 | n=>n,fun | 22=>40 | 27=>145 | 28=>37 | 29=>126 | 30=>127 | 31=>50 | 35=>153 | 37=>24 | 45=>101 | 46=>151 | 51=>185 | 53=>171 | 54=>172 | 61=>84 | 67=>58 | 68=>65 | 69=>22 | 70=>51 | 71=>52 | 72=>53 | 73=>87 | 74=>54 | 75=>55 | 76=>56 | 77=>57 | 80=>61 | 81=>227 | 83=>31 | 84=>148 | 103=>166 | 104=>23 | 105=>167 | 111=>106 | 113=>118 | 114=>108 | 119=>201 | 127=>88 | 131=>99 | 137=>202 | 138=>203 | 139=>204 | 146=>205 | 150=>144 | 151=>206 | 164=>121 | 165=>122 | 166=>149 | 171=>170 | 172=>173 | 173=>174 | 174=>175 | 185=>176 | 211=>80 | 212=>184 | 213=>186 | 218=>207 | 221=>210 | 222=>211 | 228=>218 | 229=>146 | 232=>216 | 233=>217 | 238=>222 | 239=>223 | 240=>224 | 241=>225 | 244=>229 | 246=>231 | n=>n,fun | 1=>0 | 3=>2 | 4=>3 | 17=>1 | 18=>4 | 19=>5 | n=>n⟩
theorem AF8:LaysM.n171 Tryz.prog AG4:={
 mixed:=by kernel_rfl
 f129:=Tryz.func158.trans (congrArg some (by kernel_rfl))
 f171:=Tryz.func40.trans (congrArg some (by kernel_rfl))
 f243:=Tryz.func80.trans (congrArg some (by kernel_rfl))
 f246:=Tryz.func109.trans (congrArg some (by kernel_rfl))
 f283:=Tryz.func136.trans (congrArg some (by kernel_rfl))
 f284:=Tryz.func137.trans (congrArg some (by kernel_rfl))
 f285:=Tryz.func138.trans (congrArg some (by kernel_rfl))
 f286:=Tryz.func139.trans (congrArg some (by kernel_rfl))
 f317:=Tryz.func157.trans (congrArg some (by kernel_rfl))
 f318:=Tryz.func159.trans (congrArg some (by kernel_rfl))
 f319:=Tryz.func160.trans (congrArg some (by kernel_rfl))
 f320:=Tryz.func161.trans (congrArg some (by kernel_rfl))
 f337:=Tryz.func183.trans (congrArg some (by kernel_rfl))
 f338:=Tryz.func184.trans (congrArg some (by kernel_rfl))
 t0:=Tryz.underlying0
 a0:=Tryz.isAgg0
 z0:=Tryz.sizeOf0
 v0:=Tryz.zeroValue0
 t2:=Tryz.underlying2
 a2:=Tryz.isAgg2
 z2:=Tryz.sizeOf2
 v2:=Tryz.zeroValue2
 t3:=Tryz.underlying3
 a3:=Tryz.isAgg3
 z3:=Tryz.sizeOf3
 v3:=Tryz.zeroValue3
 t4:=Tryz.underlying4
 a4:=Tryz.isAgg4
 z4:=Tryz.sizeOf4
 v4:=Tryz.zeroValue4
 t5:=Tryz.underlying5
 a5:=Tryz.isAgg5
 z5:=Tryz.sizeOf5
 v5:=Tryz.zeroValue5
 t9:=Tryz.underlying9
 a9:=Tryz.isAgg9
 z9:=Tryz.sizeOf9
 v9:=Tryz.zeroValue9
 t20:=Tryz.underlying20
 a20:=Tryz.isAgg20
 z20:=Tryz.sizeOf20
 v20:=Tryz.zeroValue20
 t37:=Tryz.underlying24
 a37:=Tryz.isAgg24
 z37:=Tryz.sizeOf24
 v37:=Tryz.zeroValue24
 t46:=Tryz.underlying151
 a46:=Tryz.isAgg151
 z46:=Tryz.sizeOf151
 v46:=Tryz.zeroValue151
 t51:=Tryz.underlying185
 a51:=Tryz.isAgg185
 z51:=Tryz.sizeOf185
 v51:=Tryz.zeroValue185
 t53:=Tryz.underlying171
 a53:=Tryz.isAgg171
 z53:=Tryz.sizeOf171
 v53:=Tryz.zeroValue171
 t171:=Tryz.underlying170
 a171:=Tryz.isAgg170
 z171:=Tryz.sizeOf170
 v171:=Tryz.zeroValue170
 t173:=Tryz.underlying174
 a173:=Tryz.isAgg174
 z173:=Tryz.sizeOf174
 v173:=Tryz.zeroValue174
 t212:=Tryz.underlying184
 a212:=Tryz.isAgg184
 z212:=Tryz.sizeOf184
 v212:=Tryz.zeroValue184
 t213:=Tryz.underlying186
 a213:=Tryz.isAgg186
 z213:=Tryz.sizeOf186
 t232:=Tryz.underlying216
 a232:=Tryz.isAgg216
 z232:=Tryz.sizeOf216
 v232:=Tryz.zeroValue216
 t233:=Tryz.underlying217
 a233:=Tryz.isAgg217
 z233:=Tryz.sizeOf217
 v233:=Tryz.zeroValue217
 g17:=by kernel_rfl
 g18:=by kernel_rfl
 g19:=by kernel_rfl
 i0:=by kernel_rfl
 i2:=by kernel_rfl
 i3:=by kernel_rfl
 i4:=by kernel_rfl
 i5:=by kernel_rfl
 i9:=by kernel_rfl
 i20:=by kernel_rfl
 i37:=by kernel_rfl
 i46:=by kernel_rfl
 i51:=by kernel_rfl
 i53:=by kernel_rfl
 i171:=by kernel_rfl
 i173:=by kernel_rfl
 i212:=by kernel_rfl
 i232:=by kernel_rfl
 i233:=by kernel_rfl
 m17:=by kernel_rfl
 m18:=by kernel_rfl
 m19:=by kernel_rfl }
def AG5:Go.Shelf.Ren:=⟨fun | 41=>63 | n=>n,fun | 22=>34 | 23=>42 | n=>n,fun | n=>n⟩
theorem AF9:SlLaysE0.n41 Tryz.prog AG5:={
 mixed:=by kernel_rfl
 f41:=⟨Tryz.f63.name,by decide,Tryz.func63.trans (congrArg some (by kernel_rfl))⟩
 t4:=Tryz.underlying4
 a4:=Tryz.isAgg4
 z4:=Tryz.sizeOf4
 v4:=Tryz.zeroValue4
 t22:=Tryz.underlying34
 a22:=Tryz.isAgg34
 z22:=Tryz.sizeOf34
 v22:=Tryz.zeroValue34 }
theorem AHY:elB Tryz.prog 42 A_=true:=by kernel_rfl
def AG6:Go.Shelf.Ren:=⟨fun | 41=>88 | n=>n,fun | 22=>37 | 23=>3 | n=>n,fun | n=>n⟩
theorem AF_:SlLaysE0.n41 Tryz.prog AG6:={
 mixed:=by kernel_rfl
 f41:=⟨Tryz.f88.name,by decide,Tryz.func88.trans (congrArg some (by kernel_rfl))⟩
 t4:=Tryz.underlying4
 a4:=Tryz.isAgg4
 z4:=Tryz.sizeOf4
 v4:=Tryz.zeroValue4
 t22:=Tryz.underlying37
 a22:=Tryz.isAgg37
 z22:=Tryz.sizeOf37
 v22:=Tryz.zeroValue37 }
theorem AHZ:elB Tryz.prog 3 (.int .i64)=true:=by kernel_rfl
def AG7:Go.Shelf.Ren:=⟨fun | 45=>97 | n=>n,fun | 22=>33 | 23=>112 | n=>n,fun | n=>n⟩
theorem AGA:SlLaysE0.n45 Tryz.prog AG7:={
 mixed:=by kernel_rfl
 f45:=⟨Tryz.f97.name,by decide,Tryz.func97.trans (congrArg some (by kernel_rfl))⟩
 t0:=Tryz.underlying0
 a0:=Tryz.isAgg0
 z0:=Tryz.sizeOf0
 v0:=Tryz.zeroValue0
 t3:=Tryz.underlying3
 a3:=Tryz.isAgg3
 z3:=Tryz.sizeOf3
 v3:=Tryz.zeroValue3
 t4:=Tryz.underlying4
 a4:=Tryz.isAgg4
 z4:=Tryz.sizeOf4
 v4:=Tryz.zeroValue4
 t22:=Tryz.underlying33
 a22:=Tryz.isAgg33
 z22:=Tryz.sizeOf33
 v22:=Tryz.zeroValue33 }
theorem AHa:elB Tryz.prog 112 AL=true:=by kernel_rfl
def AG8:Go.Shelf.Ren:=⟨fun | 41=>98 | n=>n,fun | 22=>43 | 23=>45 | n=>n,fun | n=>n⟩
theorem AGB:SlLaysE0.n41 Tryz.prog AG8:={
 mixed:=by kernel_rfl
 f41:=⟨Tryz.f98.name,by decide,Tryz.func98.trans (congrArg some (by kernel_rfl))⟩
 t4:=Tryz.underlying4
 a4:=Tryz.isAgg4
 z4:=Tryz.sizeOf4
 v4:=Tryz.zeroValue4
 t22:=Tryz.underlying43
 a22:=Tryz.isAgg43
 z22:=Tryz.sizeOf43
 v22:=Tryz.zeroValue43 }
theorem AHb:elB Tryz.prog 45 AK=true:=by kernel_rfl
def AGC:Go.Shelf.Ren:=⟨fun | 106=>174 | 213=>191 | 265=>197 | n=>n,fun | n=>n,fun | n=>n⟩
theorem AEn:Lays.n106 Tryz.prog AGC:={
 mixed:=by kernel_rfl
 f106:=Tryz.func174.trans (congrArg some (by kernel_rfl))
 f213:=Tryz.func191.trans (congrArg some (by kernel_rfl))
 f265:=Tryz.func197.trans (congrArg some (by kernel_rfl))
 t3:=Tryz.underlying3
 a3:=Tryz.isAgg3
 z3:=Tryz.sizeOf3
 v3:=Tryz.zeroValue3
 t9:=Tryz.underlying9
 a9:=Tryz.isAgg9
 z9:=Tryz.sizeOf9
 v9:=Tryz.zeroValue9 }
def AGD:Go.Shelf.Ren:=⟨fun | 22=>175 | 29=>192 | 30=>193 | n=>n,fun | 24=>43 | 9=>45 | n=>n,fun | n=>n⟩
theorem AEo:ADX Tryz.prog AGD:={
 mixed:=by kernel_rfl
 f22:=⟨Tryz.f175.name,by decide,Tryz.func175.trans (congrArg some (by kernel_rfl))⟩
 ov:=fun args w=>run_callFunc_extern Tryz.func192 (by kernel_rfl) (by kernel_rfl) (by kernel_rfl) (by kernel_rfl) args w
 t3:=Tryz.underlying3
 a3:=Tryz.isAgg3
 z3:=Tryz.sizeOf3
 v3:=Tryz.zeroValue3
 t4:=Tryz.underlying4
 a4:=Tryz.isAgg4
 z4:=Tryz.sizeOf4
 v4:=Tryz.zeroValue4
 t24:=Tryz.underlying43
 a24:=Tryz.isAgg43
 z24:=Tryz.sizeOf43
 v24:=Tryz.zeroValue43 }
theorem AG9:elB Tryz.prog 45 AK=true:=by kernel_rfl
def AGE:Go.Shelf.Ren:=⟨fun | 10=>194 | 6=>199 | n=>n,fun | 22=>37 | 23=>3 | 25=>106 | n=>n,fun | n=>n⟩
theorem AEp:SlLaysH.n10 Tryz.prog AGE:={
 mixed:=by kernel_rfl
 f6:=⟨Tryz.f199.name,by decide,Tryz.func199.trans (congrArg some (by kernel_rfl))⟩
 f10:=⟨Tryz.f194.name,by decide,Tryz.func194.trans (congrArg some (by kernel_rfl))⟩
 t0:=Tryz.underlying0
 a0:=Tryz.isAgg0
 z0:=Tryz.sizeOf0
 v0:=Tryz.zeroValue0
 t3:=Tryz.underlying3
 a3:=Tryz.isAgg3
 z3:=Tryz.sizeOf3
 v3:=Tryz.zeroValue3
 t4:=Tryz.underlying4
 a4:=Tryz.isAgg4
 z4:=Tryz.sizeOf4
 v4:=Tryz.zeroValue4
 t22:=Tryz.underlying37
 a22:=Tryz.isAgg37
 z22:=Tryz.sizeOf37
 v22:=Tryz.zeroValue37
 a23:=Tryz.isAgg3
 z23:=Tryz.sizeOf3
 t25:=Tryz.underlying106
 a25:=Tryz.isAgg106
 z25:=Tryz.sizeOf106
 v25:=Tryz.zeroValue106 }
theorem AEq:AG1 Tryz.prog 195:=⟨enters_of Tryz.func195 (by kernel_rfl) rfl,fun n x b o W hc=>by
 go_enter Tryz.func195,Tryz.ntmps195
 go_wp2
 all_goals (go_ret; exact ⟨by simp_all,0,rfl⟩)⟩
def AAI:Go.Shelf.Ren:=⟨fun | 166=>16 | 169=>20 | 240=>41 | 276=>81 | n=>n,fun | 72=>53 | 70=>51 | 37=>24 | 75=>55 | 164=>121 | 127=>88 | 80=>61 | n=>n,fun | n=>n⟩
theorem AHc:Builder.Extra Tryz.prog AAI:={
 sizeBuilder:=by kernel_rfl
 liesBuilder:=by kernel_rfl
 t5:=Tryz.underlying5
 a5:=Tryz.isAgg5
 z5:=Tryz.sizeOf5
 v5:=Tryz.zeroValue5
 infoByte:=by kernel_rfl
 cellsByte:=by kernel_rfl
 sizeByte:=by kernel_rfl
 neB5:=by decide }
theorem AG_:Lays.n166 Tryz.prog AAI:={
 mixed:=by kernel_rfl
 f166:=Tryz.func16.trans (congrArg some (by kernel_rfl))
 f240:=Tryz.func41.trans (congrArg some (by kernel_rfl))
 f276:=Tryz.func81.trans (congrArg some (by kernel_rfl))
 t0:=Tryz.underlying0
 a0:=Tryz.isAgg0
 z0:=Tryz.sizeOf0
 v0:=Tryz.zeroValue0
 t3:=Tryz.underlying3
 a3:=Tryz.isAgg3
 z3:=Tryz.sizeOf3
 v3:=Tryz.zeroValue3
 t4:=Tryz.underlying4
 a4:=Tryz.isAgg4
 z4:=Tryz.sizeOf4
 v4:=Tryz.zeroValue4
 t9:=Tryz.underlying9
 a9:=Tryz.isAgg9
 z9:=Tryz.sizeOf9
 v9:=Tryz.zeroValue9
 t20:=Tryz.underlying20
 a20:=Tryz.isAgg20
 z20:=Tryz.sizeOf20
 v20:=Tryz.zeroValue20
 t37:=Tryz.underlying24
 a37:=Tryz.isAgg24
 z37:=Tryz.sizeOf24
 v37:=Tryz.zeroValue24
 t70:=Tryz.underlying51
 a70:=Tryz.isAgg51
 z70:=Tryz.sizeOf51
 v70:=Tryz.zeroValue51
 t72:=Tryz.underlying53
 a72:=Tryz.isAgg53
 z72:=Tryz.sizeOf53
 v72:=Tryz.zeroValue53
 t75:=Tryz.underlying55
 a75:=Tryz.isAgg55
 z75:=Tryz.sizeOf55
 v75:=Tryz.zeroValue55
 t164:=Tryz.underlying121
 a164:=Tryz.isAgg121
 z164:=Tryz.sizeOf121
 v164:=Tryz.zeroValue121 }
theorem PE:uY Tryz.prog 16 1 5 53:=AF3 AG_ AHc
theorem AHA:Lays.n169 Tryz.prog AAI:={
 mixed:=by kernel_rfl
 f169:=Tryz.func20.trans (congrArg some (by kernel_rfl))
 t0:=Tryz.underlying0
 a0:=Tryz.isAgg0
 z0:=Tryz.sizeOf0
 v0:=Tryz.zeroValue0
 t3:=Tryz.underlying3
 a3:=Tryz.isAgg3
 z3:=Tryz.sizeOf3
 v3:=Tryz.zeroValue3
 t9:=Tryz.underlying9
 a9:=Tryz.isAgg9
 z9:=Tryz.sizeOf9
 v9:=Tryz.zeroValue9
 t37:=Tryz.underlying24
 a37:=Tryz.isAgg24
 z37:=Tryz.sizeOf24
 v37:=Tryz.zeroValue24
 t70:=Tryz.underlying51
 a70:=Tryz.isAgg51
 z70:=Tryz.sizeOf51
 v70:=Tryz.zeroValue51
 t72:=Tryz.underlying53
 a72:=Tryz.isAgg53
 z72:=Tryz.sizeOf53
 v72:=Tryz.zeroValue53
 t127:=Tryz.underlying88
 a127:=Tryz.isAgg88
 z127:=Tryz.sizeOf88
 v127:=Tryz.zeroValue88 }
theorem T_:uY Tryz.prog 20 2 5 53:=AF4 AHA AHc

def AEr:List (Nat×BL):=[(4,Bn),(5,BA),(6,Au),(7,aZ),(8,IU),(9,Ay),(10,Ds),(11,BW),(12,QO),(13,Bb),(14,BQ),(15,Nj),(18,QP),(19,Lt),(21,AY),(22,Ea),(23,C1),(24,CN),(25,Cg),(26,Ei),(27,BE),(28,Hq),(29,Kc),(30,D9),(31,Hr),(32,IV),(33,QQ),(34,Ba),(35,D_),(36,TC),(37,Ej),(39,EP),(43,Ek),(44,Nm),(45,Nn),(46,Dt),(47,Lu),(48,El),(49,B8),(50,Em),(51,TD),(52,CO),(53,DZ),(54,Fs),(55,No),(56,QR),(57,Ke),(58,IW),(59,Cu),(60,HU),(61,V7),(62,Gq),(64,JL),(65,Np),(66,Ci),(67,Ft),(68,Lv),(69,EA),(70,C4),(71,V9),(72,QS),(73,Cv),(74,Nq),(76,Bh),(77,HV),(78,EQ),(79,Cw),(83,CL),(84,Bi),(85,Nt),(86,Gr),(87,B3),(89,EG),(90,TE),(91,Eb),(92,Cl),(93,Gs),(94,Ag),(95,GJ),(96,Gt),(99,CG),(100,DP),(101,B4),(105,Cm),(106,Fe),(107,QT),(108,Bc),(111,JM),(112,Ga),(113,C5),(114,Ff),(115,CR),(116,GK),(117,ER),(118,CE),(119,JN),(120,FS),(121,Hs),(122,Gb),(123,Fg),(124,BP),(125,Dc),(126,Kf),(127,Fh),(128,FT),(129,C2),(130,N0),(131,Lw),(140,Cx),(141,En),(142,Gu),(143,BR),(144,Lx),(145,Eo),(146,FU),(147,CX),(148,Fi),(149,Ep),(150,Kg),(151,DE),(158,DF),(162,Ac),(168,N1),(172,AP),(173,Kh),(176,ES),(177,Bu),(178,N2),(179,D7),(180,Dd),(190,Ly)]
def fns (f:Nat):Option BL:=AFw f AEr
theorem AHd:AER Tryz.prog fns:=ADU (.cons sP <| .cons vG <| .cons vH <| .cons AB2 <| .cons jv <| .cons mS <| .cons vI <| .cons sQ <| .cons xu <| .cons sR <| .cons mT <| .cons vJ <| .cons xv <| .cons sS <| .cons pQ <| .cons xw <| .cons sU <| .cons vK <| .cons pR <| .cons vL <| .cons sV <| .cons vM <| .cons pS <| .cons sW <| .cons vN <| .cons jw <| .cons xx <| .cons pT <| .cons sX <| .cons zu <| .cons vO <| .cons jx <| .cons vP <| .cons vQ <| .cons vR <| .cons vS <| .cons sY <| .cons vT <| .cons jy <| .cons vU <| .cons zv <| .cons vV <| .cons pU <| .cons pV <| .cons vW <| .cons xy <| .cons zw <| .cons jz <| .cons j1 <| .cons iF <| .cons ABB <| .cons eQ <| .cons mU <| .cons vX <| .cons iG <| .cons pW <| .cons sZ <| .cons sa <| .cons pX <| .cons ABC <| .cons xz <| .cons j3 <| .cons vY <| .cons vZ <| .cons iH <| .cons j4 <| .cons vd <| .cons se <| .cons ve <| .cons vf <| .cons zx <| .cons aa <| .cons VM <| .cons zy <| .cons zz <| .cons mV <| .cons z_ <| .cons IX <| .cons dP <| .cons eW <| .cons AAA <| .cons AAB <| .cons vg <| .cons Nv <| .cons x_ <| .cons yA <| .cons j5 <| .cons mW <| .cons sg <| .cons ae <| .cons yB <| .cons eZ <| .cons dQ <| .cons j6 <| .cons dR <| .cons mX <| .cons af <| .cons vh <| .cons sh <| .cons yC <| .cons vj <| .cons pY <| .cons pZ <| .cons yD <| .cons AAC <| .cons yE <| .cons vk <| .cons si <| .cons j7 <| .cons vm <| .cons eo <| .cons TF <| .cons sj <| .cons vn <| .cons AAD <| .cons j8 <| .cons yF <| .cons vo <| .cons pa <| .cons mY <| .cons mZ <| .cons NI <| .cons vp <| .cons FV <| .cons pb <| .cons j9 <| .cons dS <| .cons vq <| .cons iI <| .cons fB <| .cons sm .nil)
def prims:Gi:=fun f args bs=>if f=17 then ACg args bs else if f=38 then AAH args bs else if f=40 then ACf args bs else if f=63 then vr 42 A_ args bs else if f=88 then vr 3 .W args bs else if f=97 then AEh 112 AL args bs else if f=98 then vr 45 AK args bs else if f=174 then AG0 args bs else if f=175 then AEe 45 AK args bs else if f=194 then ABG 3 195 args bs else if f=Br+16 then AF5 1 5 53 args bs else if f=Br+20 then AF5 2 5 53 args bs else none
theorem AGF:J6 Tryz.prog prims:=by
 refine ⟨fun f k t T hf h=>?_,fun f args bs rs hf h=>?_⟩<;>unfold prims at h
 ·rcases Dh h with ⟨e,h⟩ | ⟨_,h⟩
  ·exfalso; unfold Br at e; omega
  rcases Dh h with ⟨e,h⟩ | ⟨_,h⟩
  ·exfalso; unfold Br at e; omega
  rcases Dh h with ⟨e,h⟩ | ⟨_,h⟩
  ·exfalso; unfold Br at e; omega
  rcases Dh h with ⟨e,h⟩ | ⟨_,h⟩
  ·exfalso; unfold Br at e; omega
  rcases Dh h with ⟨e,h⟩ | ⟨_,h⟩
  ·exfalso; unfold Br at e; omega
  rcases Dh h with ⟨e,h⟩ | ⟨_,h⟩
  ·exfalso; unfold Br at e; omega
  rcases Dh h with ⟨e,h⟩ | ⟨_,h⟩
  ·exfalso; unfold Br at e; omega
  rcases Dh h with ⟨e,h⟩ | ⟨_,h⟩
  ·exfalso; unfold Br at e; omega
  rcases Dh h with ⟨e,h⟩ | ⟨_,h⟩
  ·exfalso; unfold Br at e; omega
  rcases Dh h with ⟨e,h⟩ | ⟨_,h⟩
  ·exfalso; unfold Br at e; omega
  rcases Dh h with ⟨e,h⟩ | ⟨_,h⟩
  ·obtain rfl:=Nat.add_left_cancel e; exact ACh PE h
  rcases Dh h with ⟨e,h⟩ | ⟨_,h⟩
  ·obtain rfl:=Nat.add_left_cancel e; exact ACh T_ h
  cases h
 ·rcases Dh h with ⟨e,h⟩ | ⟨_,h⟩
  ·subst e; exact AEl AF6 AG2 h
  rcases Dh h with ⟨e,h⟩ | ⟨_,h⟩
  ·subst e; exact ADc AF7 (by kernel_rfl) h
  rcases Dh h with ⟨e,h⟩ | ⟨_,h⟩
  ·subst e; exact AEj AF8 (List.mem_cons_self ..) h
  rcases Dh h with ⟨e,h⟩ | ⟨_,h⟩
  ·subst e; exact vu AF9 AHY h
  rcases Dh h with ⟨e,h⟩ | ⟨_,h⟩
  ·subst e; exact vu AF_ AHZ h
  rcases Dh h with ⟨e,h⟩ | ⟨_,h⟩
  ·subst e; exact AF1 AGA AHa h
  rcases Dh h with ⟨e,h⟩ | ⟨_,h⟩
  ·subst e; exact vu AGB AHb h
  rcases Dh h with ⟨e,h⟩ | ⟨_,h⟩
  ·subst e; exact AFz AEn h
  rcases Dh h with ⟨e,h⟩ | ⟨_,h⟩
  ·subst e; exact AFy AEo AG9 h
  rcases Dh h with ⟨e,h⟩ | ⟨_,h⟩
  ·subst e; exact AEg AEp Tryz.zeroValue3 AEq h
  rcases Dh h with ⟨e,h⟩ | ⟨_,h⟩
  ·exfalso; unfold Br at e hf; omega
  rcases Dh h with ⟨e,h⟩ | ⟨_,h⟩
  ·exfalso; unfold Br at e hf; omega
  cases h
abbrev cP:Gi:=zl fns prims
def cG {ρ:Type} (c:AG) (kn kr:St->Option ρ) (ke:Nat->St->Option ρ):St->Option ρ:=Hl cP M2 c kn kr ke
def lG {ρ:Type} (c:AG) (hs:List (Nat×Nat)) (l:List Nat) (n:Nat) (kr:St->Option ρ) (ke:Nat->St->Option ρ):St->Option ρ:=M2 fun go s'=>Hl cP M2 c (fun s''=>go (s''.cutH hs l n)) kr ke s'
def kB {ρ:Type} (hs:List (Nat×Nat)) (l:List Nat) (n:Nat) (kn:St->Option ρ):St->Option ρ:=fun s=>kn (s.cutH hs l n)
def kE {ρ:Type} (b:Nat) (hs:List (Nat×Nat)) (l:List Nat) (n:Nat) (kn:St->Option ρ) (ke:Nat->St->Option ρ):Nat->St->Option ρ:=fun i s=>if i=b then kn (s.cutH hs l n) else ke i s
def kx {ρ:Type}:Nat->St->Option ρ:=fun _ _=>none
def cF (f:Nat) (a:BL) (x b:List AV):Option (RT a.outs):=(cP f x b).bind (Cp a.outs)
theorem cT (a:BL) {f:Nat} {x b:List AV} {t:Option (RT a.outs)} {r:RT a.outs} (hf:fns f=some a) (hl:x.length=a.params.length/\b.length=(Eg a.params 0).length) (e:AEZ cP a x b=t) (h:t=some r):cF f a x b=some r:=ABz hf hl (e.trans h)
theorem jS {ρ:Type} {t w:Option ρ} {r:ρ} (e:w=t) (h:t=some r):w=some r:=e.trans h
theorem lS {ρ:Type} {c:AG} {hs:List (Nat×Nat)} {l:List Nat} {n:Nat} {kr:St->Option ρ} {ke:Nat->St->Option ρ} {s:St} {t:Option ρ} {r:ρ} (e:Hl cP M2 c (fun s=>lG c hs l n kr ke (s.cutH hs l n)) kr ke s=t) (h:t=some r):lG c hs l n kr ke s=some r:=ADS (e.trans h)
def B_strings_Builder_WriteString:Option Unit:=(cP (Br+16) [.int .i64 ((1:Nat):Int),.int .i64 ((5:Nat):Int),.int .i64 ((53:Nat):Int)] []).bind (Cp [])
theorem Du:B_strings_Builder_WriteString=some ():=by
 unfold B_strings_Builder_WriteString cP
 rw [GZ (r:=[]) rfl (by rfl)]
 rfl
def B_strings_Builder_String:Option Unit:=(cP (Br+20) [.int .i64 ((2:Nat):Int),.int .i64 ((5:Nat):Int),.int .i64 ((53:Nat):Int)] []).bind (Cp [])
theorem TH:B_strings_Builder_String=some ():=by
 unfold B_strings_Builder_String cP
 rw [GZ (r:=[]) rfl (by rfl)]
 rfl
def cJ (x0:List Int):Option Bool:=cF 4 Bn [.lst (.int .u8) x0] []
def UA (x0:ByteArray):Option ByteArray:=cF 5 BA [.str x0] []
def N4 (x0:ByteArray):Option ByteArray:=cF 6 Au [.str x0] []
def j_ (x0:List Int):Option Bool:=cF 7 aZ [.lst (.int .u8) x0] []
def ML (x0:List Int):Option ByteArray:=cF 8 IU [.lst (.int .u8) x0] []
def Gv (x0:ByteArray):Option (List (List Int)×List AD×Int):=cF 9 Ay [.str x0] []
def BB (x0:Int):Option ByteArray:=cF 10 Ds [.int .i64 x0] []
def Lz (x0:List (List Int)) (x1:List AD):Option (AF×List Int×Bool):=cF 11 BW [.lst .S x0,.lst AJ x1] []
def QU (x0 x1:ByteArray):Option Bool:=cF 12 QO [.str x0,.str x1] []
def Rh (x0:List (List Int)) (x1:List AD):Option (AF×List Int×Bool):=cF 13 Bb [.lst .S x0,.lst AJ x1] []
def N5 (x0:ByteArray):Option (List (List Int)×List AD×Int):=cF 14 BQ [.str x0] []
def Hv (x0:Int):Option ByteArray:=cF 15 Nj [.int .i64 x0] []
def X2 (x0:AU):Option Bool:=cF 18 QP [.agg (A_.enc x0)] []
def Ri (x0:AU):Option ByteArray:=cF 19 Lt [.agg (A_.enc x0)] []
def Pz (x1:List Int) (b0:AM):Option (ByteArray×AM):=cF 21 AY [.ptr 0 0,.lst (.int .u8) x1] [.agg (Ao.enc b0)]
def X3 (x0:List Int):Option AM:=cF 22 Ea [.lst (.int .u8) x0] []
def L5 (x0:ByteArray):Option (List ByteArray):=cF 23 C1 [.str x0] []
def UB (x0:ByteArray):Option (List ByteArray×Bool):=cF 24 CN [.str x0] []
def P0 (x0:ByteArray):Option (List Int×Bool):=cF 25 Cg [.str x0] []
def DK (x0:List (List Int)):Option Bool:=cF 26 Ei [.lst .S x0] []
def Rj (x0:List ByteArray):Option (AD×Bool):=cF 27 BE [.lst .str x0] []
def N6 (x0:AD):Option Bool:=cF 28 Hq [.agg (AJ.enc x0)] []
def P1 (x0:Int):Option Int:=cF 29 Kc [.int .i64 x0] []
def Rk (x0:List (List Int)):Option (AF×Bool):=cF 30 D9 [.lst .S x0] []
def N7 (x0:AD):Option Bool:=cF 31 Hr [.agg (AJ.enc x0)] []
def IY (x1:AD) (x2:Int) (b0:AF):Option (Bool×AF):=cF 32 IV [.ptr 0 0,.agg (AJ.enc x1),.int .i64 x2] [.agg (Al.enc b0)]
def X4 (x0:Bool):Option Int:=cF 33 QQ [.bool x0] []
def Kj (x0:AF):Option AF:=cF 34 Ba [.agg (Af.enc x0)] []
def L6 (x0:List (List Int)):Option (AF×Bool):=cF 35 D_ [.lst .S x0] []
def TI (x1:Int) (x2:AD) (b0:AF):Option (Int×AF):=cF 36 TC [.ptr 0 0,.int .i64 x1,.agg (AJ.enc x2)] [.agg (Af.enc b0)]
def UC (x0:AF):Option AF:=cF 37 Ej [.agg (Af.enc x0)] []
def MM (x1:ByteArray) (b0:At):Option (Bool×At):=cF 39 EP [.ptr 0 0,.str x1] [.agg [.new 37 .S b0.1,.new 72 AJ b0.2]]
def UD (x1:List Int) (b0:AM):Option (At×AM):=cF 43 Ek [.ptr 0 0,.lst (.int .u8) x1] [.agg (Ao.enc b0)]
def Cy (x1:Int) (b0:AM):Option (Bool×AM):=cF 44 Nm [.ptr 0 0,.int .i64 x1] [.agg (Ao.enc b0)]
def F3 (x1:List ByteArray) (b0:AM):Option (ByteArray×AM):=cF 45 Nn [.ptr 0 0,.lst .str x1] [.agg (Ao.enc b0)]
def UE (x0:AD):Option ByteArray:=cF 46 Dt [.agg (AJ.enc x0)] []
def CM (x1:Int) (b0:AM):Option (Int×AM):=cF 47 Lu [.ptr 0 0,.int .i64 x1] [.agg (Ao.enc b0)]
def UF (x0 x1:Int):Option ByteArray:=cF 48 El [.int .i64 x0,.int .u8 x1] []
def ET (x0:ByteArray):Option (Int×Bool):=cF 49 B8 [.str x0] []
def UG (x0:List Int):Option Bool:=cF 50 Em [.lst .W x0] []
def Ad (x0 x1 x2:Int):Option Bool:=cF 51 TD [.int .i64 x0,.int .i64 x1,.int .i64 x2] []
def DL (x0:List (List Int)):Option Bool:=cF 52 CO [.lst .S x0] []
def Kk (x0:List (List Int)):Option (List (List Int)):=cF 53 DZ [.lst .S x0] []
def P2 (x0:Int) (x1:List (List Int)):Option (Y×Bool):=cF 54 Fs [.int .i64 x0,.lst .S x1] []
def Av (x0 x1 x2:Int):Option Bool:=cF 55 No [.int .i64 x0,.int .i64 x1,.int .i64 x2] []
def Fn (x0:Int):Option Bool:=cF 56 QR [.int .i64 x0] []
def N8 (x0 x1:Int) (x2 x3:ByteArray):Option Bool:=cF 57 Ke [.int .i64 x0,.int .i64 x1,.str x2,.str x3] []
def MN (x1:AD) (x2:Int) (b0:AF):Option (Bool×AF):=cF 58 IW [.ptr 0 0,.agg (AJ.enc x1),.int .i64 x2] [.agg (Al.enc b0)]
def MO (x1:AD) (x2:Int) (b0:AF):Option (Bool×AF):=cF 59 Cu [.ptr 0 0,.agg (AJ.enc x1),.int .i64 x2] [.agg (Al.enc b0)]
def CH (x1:Int) (b0:AF):Option (Int×AF):=cF 60 HU [.ptr 0 0,.int .i64 x1] [.agg (Al.enc b0)]
def Wd (x0:Y):Option Y:=cF 61 V7 [.agg (Z.enc x0)] []
def KC (x1:AD) (x2:Int) (b0:AF):Option (Bool×AF):=cF 62 Gq [.ptr 0 0,.agg (AJ.enc x1),.int .i64 x2] [.agg (Al.enc b0)]
def DG (x0:Y):Option Y:=cF 64 JL [.agg (Z.enc x0)] []
def Hw (x0:AC):Option AC:=cF 65 Np [.agg (AL.enc x0)] []
def HW (x0:List (List Int)):Option (List (List Int)):=cF 66 Ci [.lst .S x0] []
def P3 (x0:Int) (x1:List (List Int)):Option (Y×Bool):=cF 67 Ft [.int .i64 x0,.lst .S x1] []
def Rl (x1:Int) (x2:AD) (b0:AF):Option (Int×AF):=cF 68 Lv [.ptr 0 0,.int .i64 x1,.agg (AJ.enc x2)] [.agg (Af.enc b0)]
def Rm (x1 x2:Int) (b0:AF):Option (Int×AF):=cF 69 EA [.ptr 0 0,.int .i64 x1,.int .i64 x2] [.agg (Af.enc b0)]
def Fu (x1:Y) (x2:List AC) (x3:List AN) (x4:Int) (b0:AF):Option AF:=cF 70 C4 [.ptr 0 0,.agg (Z.enc x1),.lst AL x2,.lst BG x3,.int .i64 x4] [.agg (Af.enc b0)]
def fD (x0:Y):Option Y:=cF 71 V9 [.agg (Z.enc x0)] []
def X5 (x1:Int) (x2:AD) (b0:AF):Option (Int×AF):=cF 72 QS [.ptr 0 0,.int .i64 x1,.agg (AJ.enc x2)] [.agg (Af.enc b0)]
def MP (x0:List AC):Option (List AC):=cF 73 Cv [.lst AL x0] []
def Dv (x0:Y):Option Y:=cF 74 Nq [.agg (Z.enc x0)] []
def UH (x0:ByteArray):Option (List ByteArray×Bool):=cF 76 Bh [.str x0] []
def K6 (x0 x1:ByteArray):Option Bool:=cF 77 HV [.str x0,.str x1] []
def MQ (x1:List ByteArray) (b0:At):Option (Bool×At):=cF 78 EQ [.ptr 0 0,.lst .str x1] [.agg [.new 37 .S b0.1,.new 72 AJ b0.2]]
def UI (x0:List ByteArray):Option (AD×Bool):=cF 79 Cw [.lst .str x0] []
def Rn (b0:AM):Option (List (List Int)×AM):=cF 83 CL [.ptr 0 0] [.agg (Ao.enc b0)]
def UJ (b0:AM) (b1:AF):Option (AD×AM×AF):=cF 84 Bi [.ptr 0 0,.ptr 1 0] [.agg (Ao.enc b0),.agg (Af.enc b1)]
def F4 (b0:AM):Option (Int×AM):=cF 85 Nt [.ptr 0 0] [.agg (Ao.enc b0)]
def Ec (x0:List Int) (x1:Int):Option Bool:=cF 86 Gr [.lst .W x0,.int .i64 x1] []
def Dw (x0:List Int) (x1:Int):Option Int:=cF 87 B3 [.lst .W x0,.int .i64 x1] []
def C8 (x0:List Int) (x1:Int):Option Bool:=cF 89 EG [.lst .W x0,.int .i64 x1] []
def TJ (x0:ByteArray):Option Bool:=cF 90 TE [.str x0] []
def TK (x0:Y) (x1:List (List Int)) (x2 x3:Int) (x4 x5:ByteArray):Option (Y×List AC×List AN×Bool):=cF 91 Eb [.agg (Z.enc x0),.lst .S x1,.int .i64 x2,.int .i64 x3,.str x4,.str x5] []
def Gw (x1:List AC) (x2:List AN) (x3:Int) (b0:AF):Option AF:=cF 92 Cl [.ptr 0 0,.lst AL x1,.lst BG x2,.int .i64 x3] [.agg (Al.enc b0)]
def TL (x0:Y) (x1:List (List Int)) (x2:Int):Option (Y×List AC×Bool):=cF 93 Gs [.agg (Z.enc x0),.lst .S x1,.int .i64 x2] []
def CY (x0:List Y) (x1:Int):Option Int:=cF 94 Ag [.lst Z x0,.clo 95 .W x1] []
def I9 (x0:Y) (x1:Int):Option Bool:=cF 95 GJ [.agg (Z.enc x0),.fptr [.int .i64 x1] 0] []
def KD (x1 x2:Int) (b0:AF):Option AF:=cF 96 Gt [.ptr 0 0,.int .i64 x1,.int .i64 x2] [.agg (Al.enc b0)]
def ag (x0:Y) (x1:List (List Int)) (x2 x3:Int) (x4 x5:ByteArray):Option (Y×List AC×List AN×Bool):=cF 99 CG [.agg (Z.enc x0),.lst .S x1,.int .i64 x2,.int .i64 x3,.str x4,.str x5] []
def ah (x0:Y) (x1:List (List Int)) (x2:Int):Option (Y×List AC×Bool):=cF 100 DP [.agg (Z.enc x0),.lst .S x1,.int .i64 x2] []
def UK (x0:Y) (x1:List (List Int)) (x2:AC):Option (Y×List AC×List AN):=cF 101 B4 [.agg (Z.enc x0),.lst .S x1,.agg (AL.enc x2)] []
def Dx (x0 x1:ByteArray):Option Bool:=cF 105 Cm [.str x0,.str x1] []
def X6 (x0:ByteArray):Option (List Int×Bool):=cF 106 Fe [.str x0] []
def X7 (x0:ByteArray):Option (Int×Int):=cF 107 QT [.str x0] []
def IZ (x0:ByteArray):Option (Int×Bool):=cF 108 Bc [.str x0] []
def JO (x1:List Int) (b0:AM):Option (Int×AM):=cF 111 JM [.ptr 0 0,.lst .W x1] [.agg (Ao.enc b0)]
def Gc (x0:Y):Option Bool:=cF 112 Ga [.agg (Z.enc x0)] []
def Ia (x1:List (List Int)) (b0:Y):Option (Bool×Y):=cF 113 C5 [.ptr 0 0,.lst .S x1] [.agg (Z.enc b0)]
def QV (x0:List AB) (x1:ByteArray):Option AB:=cF 114 Ff [.lst AK x0,.str x1] []
def CS (x1:List Int) (b0:Y):Option (List Int×Y):=cF 115 CR [.ptr 0 0,.lst .W x1] [.agg (Z.enc b0)]
def DI (b0:List Int):Option (List Int):=cF 116 GK [.row 0] [.new 3 .W b0]
def Ib (b0:Y):Option (List AN×Y):=cF 117 ER [.ptr 0 0] [.agg (Z.enc b0)]
def Aq (x1:List Int) (x2:AC) (b0:Y):Option (List AC×Y):=cF 118 CE [.ptr 0 0,.lst .W x1,.agg (AL.enc x2)] [.agg (Z.enc b0)]
def Gx (b0:Y):Option Y:=cF 119 JN [.ptr 0 0] [.agg (Z.enc b0)]
def Dy (x1:List Int) (x2:List AB) (b0:Y):Option (List AC×Y):=cF 120 FS [.ptr 0 0,.lst .W x1,.lst AK x2] [.agg (Z.enc b0)]
def N9 (x0:Y) (x1:List (List Int)) (x2:AC):Option (Y×List AC×List AN):=cF 121 Hs [.agg (Z.enc x0),.lst .S x1,.agg (AL.enc x2)] []
def Gd (x0:Y):Option Bool:=cF 122 Gb [.agg (Z.enc x0)] []
def QW (x0:List AB) (x1:ByteArray):Option AB:=cF 123 Fg [.lst AK x0,.str x1] []
def KE (x0:List AB) (x1:AB):Option (List AB):=cF 124 BP [.lst AK x0,.agg (AK.enc x1)] []
def Hx (x0:List Int) (x1:Int):Option (List Int):=cF 125 Dc [.lst .W x0,.int .i64 x1] []
def Hy (b0:Y):Option (List AN×Y):=cF 126 Kf [.ptr 0 0] [.agg (Z.enc b0)]
def QX (x1:List Int) (x2:List AB) (b0:Y):Option (List AC×Y):=cF 127 Fh [.ptr 0 0,.lst .W x1,.lst AK x2] [.agg (Z.enc b0)]
def ak (x0:AC):Option Bool:=cF 128 FT [.agg (AL.enc x0)] []
def X8 (x0:Y) (x1:List Int) (x2:AC):Option (Y×List AC×List AN):=cF 129 C2 [.agg (Z.enc x0),.lst .W x1,.agg (AL.enc x2)] []
def N_ (x0:Y) (x1:Int):Option Y:=cF 130 N0 [.agg (Z.enc x0),.int .i64 x1] []
def E8 (x0:Y) (x1:AC) (x2:Int):Option (List AC):=cF 131 Lw [.agg (Z.enc x0),.agg (AL.enc x1),.int .i64 x2] []
def Ic (x0:List Int) (x1 x2:Int):Option Bool:=cF 140 Cx [.lst .W x0,.int .i64 x1,.int .i64 x2] []
def F5 (x0:List AB):Option Bool:=cF 141 En [.lst AK x0] []
def De (b0:Y):Option (Bool×Y):=cF 142 Gu [.ptr 0 0] [.agg (Z.enc b0)]
def FW (x1 x2 x3:Int) (b0:List Int):Option (List Int):=cF 143 BR [.row 0,.int .i64 x1,.int .i64 x2,.int .i64 x3] [.new 3 .W b0]
def Ro (x0:Int):Option Int:=cF 144 Lx [.int .u64 x0] []
def OA (x0:List AB) (x1:AB):Option (List AB):=cF 145 Eo [.lst AK x0,.agg (AK.enc x1)] []
def am (x0:AC):Option Bool:=cF 146 FU [.agg (AL.enc x0)] []
def MR (x1:List (List Int)) (x2:AC) (b0:Y):Option (List AC×List AN×Y):=cF 147 CX [.ptr 0 0,.lst .S x1,.agg (AL.enc x2)] [.agg (Z.enc b0)]
def Dm (x0:List Int):Option Bool:=cF 148 Fi [.lst .W x0] []
def Dz (x0:List AB):Option Bool:=cF 149 Ep [.lst AK x0] []
def P4 (x0:zm):Option Bool:=cF 150 Kg [.agg (NT.enc x0)] []
def JP (x0:List Int) (x1:Int):Option (List Int):=cF 151 DE [.lst .W x0,.int .i64 x1] []
def OB (x0:Int):Option Int:=cF 158 DF [.int .u64 x0] []
def Dj (x1 x2:Int) (b0:List Int):Option (List Int):=cF 162 Ac [.row 0,.int .i64 x1,.int .i64 x2] [.new 3 .W b0]
def UL (x0 x1:Int):Option Bool:=cF 168 N1 [.int .i64 x0,.int .i64 x1] []
def Bj (x0:List AB) (x1:ByteArray) (x2:Unit):Option (Int×Bool):=cF 172 AP [.lst AK x0,.str x1,.fn 173 []] []
def Kl (x0:AB) (x1:ByteArray):Option Int:=cF 173 Kh [.agg (AK.enc x0),.str x1] []
def MS (x1:List (List Int)) (x2:AC) (b0:Y):Option (List AC×Y):=cF 176 ES [.ptr 0 0,.lst .S x1,.agg (AL.enc x2)] [.agg (Z.enc b0)]
def I_ (x1:List Int) (x2:AC) (b0:Y):Option (List AC×Y):=cF 177 Bu [.ptr 0 0,.lst .W x1,.agg (AL.enc x2)] [.agg (Z.enc b0)]
def OC (x0:List Int) (x1:Int):Option (List Int):=cF 178 N2 [.lst .W x0,.int .i64 x1] []
def K7 (x1:AC) (b0:Y):Option (List AC×Y):=cF 179 D7 [.ptr 0 0,.agg (AL.enc x1)] [.agg (Z.enc b0)]
def Gy (x1:Int) (x2:AC) (b0:Y):Option (List AN×Y):=cF 180 Dd [.ptr 0 0,.int .i64 x1,.agg (AL.enc x2)] [.agg (Z.enc b0)]
def L7 (x0:Int):Option Bool:=cF 190 Ly [.int .i64 x0] []
def UM (q0:List ByteArray) (q1:ByteArray):Option ByteArray:=(cP 17 [.lst .str q0,.str q1] []).bind (Cp [.str])
def Ge (q0 q1:ByteArray):Option (List ByteArray):=(cP 38 [.str q0,.str q1] []).bind (Cp [(.slice .str)])
def UN (q0:Int):Option ByteArray:=(cP 40 [.int .i64 q0] []).bind (Cp [.str])
def DV (q0:List AU):Option (List AU):=(cP 63 [.lst A_ q0] []).bind (Cp [(.own 42 A_)])
def B5 (q0:List Int):Option (List Int):=(cP 88 [.lst .W q0] []).bind (Cp [(.own 3 .W)])
def Bw (q0:List AC) (q1 q2:Int):Option (List AC):=(cP 97 [.new 112 AL q0,.int .i64 q1,.int .i64 q2] []).bind (Cp [(.own 112 AL)])
def Ap (q0:List AB):Option (List AB):=(cP 98 [.lst AK q0] []).bind (Cp [(.own 45 AK)])
def Rp (q0 q1:Int) (q2:List Int):Option (List Int):=(cP 163 [.row 0,.int .i64 q0,.int .i64 q1] [.new 3 .W q2]).bind (Cp [(.own 3 .W)])
def NJ (q0 q1:Int) (q2:List Int):Option (List Int):=(cP 164 [.row 0,.int .i64 q0,.int .i64 q1] [.new 3 .W q2]).bind (Cp [(.own 3 .W)])
def DM (q0:List AB) (q1:Int) (q2:List AB):Option (List AB):=(cP 175 [.new 45 AK q0,.int .i64 q1,.new 45 AK q2] []).bind (Cp [(.own 45 AK)])
def OD (q0 q1:ByteArray):Option Int:=(cP 174 [.str q0,.str q1] []).bind (Cp [.W])
def FX (q0:List Int) (q1:Int):Option (List Int):=(cP 194 [.new 3 .W q0,.clo 195 .W q1] []).bind (Cp [(.own 3 .W)])
theorem vv {x0:List ByteArray} {x1:ByteArray} (h:x0≠[]) (h1:x0.length<=140737488355328) (h2:(Go.Lib.join (x0.map (·.data.toList)) x1.data.toList).length<=140737488355328):UM x0 x1=some ⟨(Go.Lib.join (x0.map (·.data.toList)) x1.data.toList).toArray⟩:=by
 unfold UM cP
 rw [GZ (r:=[.str ⟨(Go.Lib.join (x0.map (·.data.toList)) x1.data.toList).toArray⟩]) rfl (AEk h h1 h2)]
 rfl
theorem sn {x0 x1:ByteArray} (h:x0.size<4294967281) (h1:x1.size=1):Ge x0 x1=some (Go.Lib.splitB x1 0 (Go.Lib.countB x0 x1) x0):=by
 unfold Ge cP
 rw [GZ (r:=[.lst .str (Go.Lib.splitB x1 0 (Go.Lib.countB x0 x1) x0)]) rfl (ADb h h1)]
 rfl
theorem vw {x0:Int} (h:-9223372036854775808<=x0) (h1:x0<=9223372036854775807):UN x0=some ⟨(Go.Lib.itoa x0).toArray⟩:=by
 unfold UN cP
 rw [GZ (r:=[.str ⟨(Go.Lib.itoa x0).toArray⟩]) rfl (AEi h h1)]
 rfl
theorem MT {x0:List AU} (h:x0.length<=68719476736):DV x0=some x0:=by
 unfold DV cP
 rw [GZ (r:=[.new 42 A_ x0]) rfl (vt (t:=42) (K:=A_) (xs:=x0) h)]
 rfl
theorem C6 {x0:List Int} (h:x0.length<=68719476736):B5 x0=some x0:=by
 unfold B5 cP
 rw [GZ (r:=[.new 3 .W x0]) rfl (vt (t:=3) (K:=.W) (xs:=x0) h)]
 rfl
theorem GV {x0:List AC} {i j:Nat} (hi:i<=j) (hj:j<=x0.length):Bw x0 (i:Int) (j:Int)=some (x0.take i++x0.drop j):=by
 unfold Bw cP
 rw [GZ (r:=[.new 112 AL (x0.take i++x0.drop j)]) rfl (AF0 (t:=112) (K:=AL) (xs:=x0) hi hj)]
 rfl
theorem BV {x0:List AB} (h:x0.length<=68719476736):Ap x0=some x0:=by
 unfold Ap cP
 rw [GZ (r:=[.new 45 AK x0]) rfl (vt (t:=45) (K:=AK) (xs:=x0) h)]
 rfl
theorem me {x0 x1:ByteArray}:OD x0 x1=some (Go.Lib.compareBytes x0.data.toList x1.data.toList):=by
 unfold OD cP
 rw [GZ (r:=[.int .i64 (Go.Lib.compareBytes x0.data.toList x1.data.toList)]) rfl rfl]
 rfl
theorem Ld {x0:List AB} {i:Nat} {x2:List AB} (h:x0.length+x2.length<=68719476736) (hi:i<=x0.length) (hv:x2.length≠0):DM x0 (i:Int) x2=some (x0.take i++x2++x0.drop i):=by
 unfold DM cP
 rw [GZ (r:=[.new 45 AK (x0.take i++x2++x0.drop i)]) rfl (AFx (t:=45) (K:=AK) (xs:=x0) (vs:=x2) (i:=i) h hi hv)]
 rfl
theorem TM {x0:List Int} {x1:Int}:FX x0 x1=some (x0.filter fun x=>!(x==x1)):=by
 unfold FX cP
 rw [GZ (fns:=fns) (prims:=prims) (f:=194) (args:=[.new 3 .W x0,.clo 195 .W x1]) (bs:=[]) (r:=[.new 3 .W (x0.filter fun x=>!(x==x1))]) rfl (AEf (t:=3) (g:=195) (xs:=x0) (n:=x1))]
 rfl

def mf:=cG MH (AH Bn) (AH Bn) kx
def mg:=kE 0 [] [3,5,7,9,10,11] 1 mf kx
def kA:St->Option (RT (BL.outs Bn)):=lG Vb [] [3,5,7,9,10,11,12] 1 (AH Bn) mg
def F6 (x0 x1 x2:ByteArray) (x3:AF):Option Bool:=cG Th (AH Bn) (AH Bn) kx ⟨[(3,.str x0),(7,.str x1),(13,.str x2)],[.var (Af.enc x3)]⟩
def MU (x0 x1:ByteArray) (x2:Bool) (x3:AF):Option Bool:=cG Ti (AH Bn) (AH Bn) kx ⟨[(3,.str x0),(7,.str x1),(75,.bool x2)],[.var (Af.enc x3)]⟩
def MV (x0:ByteArray) (x1:List AD) (x2:ByteArray) (x3:List Int) (x4:Bool) (x5:ByteArray) (x6:AF):Option Bool:=cG MH (AH Bn) (AH Bn) kx ⟨[(3,.str x0),(5,.lst AJ x1),(7,.str x2),(9,.lst .W x3),(10,.bool x4),(11,.str x5)],[.var (Af.enc x6)]⟩
def EU (x0:ByteArray) (x1:List AD) (x2:ByteArray) (x3:List Int) (x4:Bool) (x5:ByteArray) (x6:Int) (x7:AF):Option Bool:=kA ⟨[(3,.str x0),(5,.lst AJ x1),(7,.str x2),(9,.lst .W x3),(10,.bool x4),(11,.str x5),(12,.int .i64 x6)],[.var (Af.enc x7)]⟩
def UO (x0 x1 x2:ByteArray) (x3:AF):Option Bool:=((Gv x2).bind fun y10=>((UA x0).bind fun y11=>(if (x1.toList==y11.toList)=true then (if (y10.2.2==(-1:Int))=false then ((N4 x2).bind fun y12=>(some (y12.toList==x1.toList))) else (some true)) else (some false))))
def UP (x0 x1:ByteArray) (x2:Bool) (x3:AF):Option Bool:=(if (⟨#[35,32,115,97,105,100,10,32,32,32,10]⟩:ByteArray).size+x0.size<=1099511627776 then (if (decide ((x0.size:Int)>0))=true then (if 0<=(i64.wrap ((x0.size:Int)-1)) then (if (i64.wrap ((x0.size:Int)-1))<(x0.size:Int) then (if (((x0.data.toList.getD (i64.wrap ((x0.size:Int)-1)).toNat 0).toNat:Int)==10)=true then (if ((⟨#[35,32,115,97,105,100,10,32,32,32,10]⟩:ByteArray)++x0).size+(⟨#[32,32,35,32,109,111,114,101,10]⟩:ByteArray).size<=1099511627776 then (F6 x0 x1 (((⟨#[35,32,115,97,105,100,10,32,32,32,10]⟩:ByteArray)++x0)++(⟨#[32,32,35,32,109,111,114,101,10]⟩:ByteArray)) x3) else none) else (F6 x0 x1 ((⟨#[35,32,115,97,105,100,10,32,32,32,10]⟩:ByteArray)++x0) x3)) else none) else none) else (F6 x0 x1 ((⟨#[35,32,115,97,105,100,10,32,32,32,10]⟩:ByteArray)++x0) x3)) else none)
def UQ (x0:ByteArray) (x1:List AD) (x2:ByteArray) (x3:List Int) (x4:Bool) (x5:ByteArray) (x6:AF):Option Bool:=(if (!x4)=false then ((QU x5 x2).bind fun y9=>(if (!y9)=false then (if ((x3.length:Int) != (x1.length:Int))=true then (some false) else (MU x0 x2 ((x3.length:Int) != (x1.length:Int)) x6)) else (some false))) else (some false))
def Id (x0:ByteArray) (x1:List AD) (x2:ByteArray) (x3:List Int) (x4:Bool) (x5:ByteArray) (x6:Int) (x7:AF):Option Bool:=(if (decide (x6<(x3.length:Int)))=true then (if (decide (x6>0))=true then (if x5.size+(⟨#[32]⟩:ByteArray).size<=1099511627776 then (if 0<=x6 then (if x6<(x3.length:Int) then ((BB (x3.getD x6.toNat 0)).bind fun y7=>(if (x5++(⟨#[32]⟩:ByteArray)).size+y7.size<=1099511627776 then (EU x0 x1 x2 x3 x4 ((x5++(⟨#[32]⟩:ByteArray))++y7) (i64.wrap (x6+1)) x7) else none)) else none) else none) else none) else (if 0<=x6 then (if x6<(x3.length:Int) then ((BB (x3.getD x6.toNat 0)).bind fun y8=>(if x5.size+y8.size<=1099511627776 then (EU x0 x1 x2 x3 x4 (x5++y8) (i64.wrap (x6+1)) x7) else none)) else none) else none)) else (MV x0 x1 x2 x3 x4 x5 x7))
def cK (x0:List Int):Option Bool:=((j_ x0).bind fun y1=>(if y1=true then (some true) else ((ML x0).bind fun y2=>((Gv y2).bind fun y3=>((N4 y2).bind fun y4=>(if (y3.2.2 != 0)=true then ((BB y3.2.2).bind fun y5=>(if (⟨#[102,97,117,108,116,32]⟩:ByteArray).size+y5.size<=1099511627776 then (if ((⟨#[102,97,117,108,116,32]⟩:ByteArray)++y5).size+(⟨#[10]⟩:ByteArray).size<=1099511627776 then (some (y4.toList==(((⟨#[102,97,117,108,116,32]⟩:ByteArray)++y5)++(⟨#[10]⟩:ByteArray)).toList)) else none) else none)) else ((Lz y3.1 y3.2.1).bind fun y6=>(EU y2 y3.2.1 y4 y6.2.1 y6.2.2 (⟨#[]⟩:ByteArray) 0 y6.1))))))))
theorem kC:X1 UO F6:=jS (by kernel_rfl)
theorem kD:X1 UP MU:=jS (by kernel_rfl)
theorem kF:Le7 UQ MV:=jS (by kernel_rfl)
theorem MW:Le8 Id EU:=lS (by kernel_rfl)
theorem so:LZ cK cJ:=cT Bn rfl ⟨rfl,rfl⟩ (by kernel_rfl)
def pf:=cG Vh (AH BA) (AH BA) kx
def pg:=kE 4 [] [9] 1 pf kx
def mh:St->Option (RT (BL.outs BA)):=lG Vg [] [6,9,13] 1 (AH BA) pg
def ph:=cG Vi (AH BA) (AH BA) kx
def P5:=kE 2 [] [6,9] 1 ph kx
def We:St->Option (RT (BL.outs BA)):=lG Vf [] [6,9,11] 1 (AH BA) P5
def pj:=cG Ng (AH BA) (AH BA) kx
def pl:=kE 0 [] [6,7,9] 1 pj kx
def mi:St->Option (RT (BL.outs BA)):=lG YY [] [6,7,9,10] 1 (AH BA) pl
def pn:=kB [] [6,9,11] 1 We
def ZB:=cG Ve pn (AH BA) P5
def ZD:=kB [] [6,9,11] 1 ZB
def ZE:=kE 3 [] [6,9,11] 1 ZB P5
def JQ (x0:ByteArray) (x1:Int) (x2:Bool) (x3:AF) (x4:AU):Option ByteArray:=cG Vc ZD (AH BA) ZE ⟨[(6,.ptr 0 0),(9,.str x0),(11,.int .i64 x1),(12,.ptr 1 0),(88,.bool x2)],[.var (Af.enc x3),.var (A_.enc x4)]⟩
def JR (x0:ByteArray) (x1:Int) (x2:AF) (x3:AU):Option ByteArray:=cG Vd ZD (AH BA) ZE ⟨[(6,.ptr 0 0),(9,.str x0),(11,.int .i64 x1),(12,.ptr 1 0)],[.var (Af.enc x2),.var (A_.enc x3)]⟩
def Gz (x0:ByteArray) (x1:Int) (x2:AF):Option ByteArray:=mh ⟨[(6,.ptr 0 0),(9,.str x0),(13,.int .i64 x1)],[.var (Af.enc x2)]⟩
def D0 (x0:ByteArray) (x1:Int) (x2:AF):Option ByteArray:=We ⟨[(6,.ptr 0 0),(9,.str x0),(11,.int .i64 x1)],[.var (Af.enc x2)]⟩
def JS (x0:List Int) (x1:ByteArray) (x2:AF):Option ByteArray:=cG Ng (AH BA) (AH BA) kx ⟨[(6,.ptr 0 0),(7,.lst .W x0),(9,.str x1)],[.var (Af.enc x2)]⟩
def Ex (x0:List Int) (x1:ByteArray) (x2:Int) (x3:AF):Option ByteArray:=mi ⟨[(6,.ptr 0 0),(7,.lst .W x0),(9,.str x1),(10,.int .i64 x2)],[.var (Af.enc x3)]⟩
def OE (x0:ByteArray) (x1:Int) (x2:Bool) (x3:AF) (x4:AU):Option ByteArray:=(if x2=true then (if x0.size+(⟨#[103,101,116,32]⟩:ByteArray).size<=1099511627776 then (if (x0++(⟨#[103,101,116,32]⟩:ByteArray)).size+x4.2.1.size<=1099511627776 then (if ((x0++(⟨#[103,101,116,32]⟩:ByteArray))++x4.2.1).size+(⟨#[32]⟩:ByteArray).size<=1099511627776 then (if (((x0++(⟨#[103,101,116,32]⟩:ByteArray))++x4.2.1)++(⟨#[32]⟩:ByteArray)).size+x4.2.2.2.2.2.2.2.2.size<=1099511627776 then (if ((((x0++(⟨#[103,101,116,32]⟩:ByteArray))++x4.2.1)++(⟨#[32]⟩:ByteArray))++x4.2.2.2.2.2.2.2.2).size+(⟨#[10]⟩:ByteArray).size<=1099511627776 then (D0 (((((x0++(⟨#[103,101,116,32]⟩:ByteArray))++x4.2.1)++(⟨#[32]⟩:ByteArray))++x4.2.2.2.2.2.2.2.2)++(⟨#[10]⟩:ByteArray)) (i64.wrap (x1+1)) x3) else none) else none) else none) else none) else none) else (D0 x0 (i64.wrap (x1+1)) x3))
def JT (x0:ByteArray) (x1:Int) (x2:AF) (x3:AU):Option ByteArray:=(if (decide (x3.2.2.2.2.1>=0))=true then (JQ x0 x1 (x3.1==2) x2 x3) else (JQ x0 x1 false x2 x3))
def OF (x0:ByteArray) (x1:Int) (x2:AF):Option ByteArray:=(if (decide (x1<(x2.2.1.length:Int)))=true then (if 0<=x1 then (if x1<(x2.2.1.length:Int) then (if (((((((x2.2.1.getD x1.toNat (0,0,false,false,false,false,([]:List Int),([]:List AB),0,0,0,0,(U,U,0),([]:List Int))).2).2).2).2).2).1)=true then (if x0.size+(⟨#[115,101,114,118,101,115,32]⟩:ByteArray).size<=1099511627776 then (if 0<=x1 then (if x1<(x2.2.1.length:Int) then ((BB ((x2.2.1.getD x1.toNat (0,0,false,false,false,false,([]:List Int),([]:List AB),0,0,0,0,(U,U,0),([]:List Int))).1)).bind fun y6=>(if (x0++(⟨#[115,101,114,118,101,115,32]⟩:ByteArray)).size+y6.size<=1099511627776 then (if ((x0++(⟨#[115,101,114,118,101,115,32]⟩:ByteArray))++y6).size+(⟨#[10]⟩:ByteArray).size<=1099511627776 then (Gz (((x0++(⟨#[115,101,114,118,101,115,32]⟩:ByteArray))++y6)++(⟨#[10]⟩:ByteArray)) (i64.wrap (x1+1)) x2) else none) else none)) else none) else none) else none) else (Gz x0 (i64.wrap (x1+1)) x2)) else none) else none) else (some x0))
def OG (x0:ByteArray) (x1:Int) (x2:AF):Option ByteArray:=(if (decide (x1<(x2.2.2.2.length:Int)))=true then (if 0<=x1 then (if x1<(x2.2.2.2.length:Int) then (if (decide (((((((x2.2.2.2.getD x1.toNat (0,U,U,0,0,0,0,0,U)).2).2).2).2).1)>=0))=true then (if (((x2.2.2.2.getD x1.toNat (0,U,U,0,0,0,0,0,U)).1)==1)=true then (if x0.size+(⟨#[112,117,116,32]⟩:ByteArray).size<=1099511627776 then (if (x0++(⟨#[112,117,116,32]⟩:ByteArray)).size+(((x2.2.2.2.getD x1.toNat (0,U,U,0,0,0,0,0,U)).2).1).size<=1099511627776 then (if ((x0++(⟨#[112,117,116,32]⟩:ByteArray))++(((x2.2.2.2.getD x1.toNat (0,U,U,0,0,0,0,0,U)).2).1)).size+(⟨#[10]⟩:ByteArray).size<=1099511627776 then (JR (((x0++(⟨#[112,117,116,32]⟩:ByteArray))++(((x2.2.2.2.getD x1.toNat (0,U,U,0,0,0,0,0,U)).2).1))++(⟨#[10]⟩:ByteArray)) x1 x2 (x2.2.2.2.getD x1.toNat (0,U,U,0,0,0,0,0,U))) else none) else none) else none) else (JR x0 x1 x2 (x2.2.2.2.getD x1.toNat (0,U,U,0,0,0,0,0,U)))) else (JR x0 x1 x2 (x2.2.2.2.getD x1.toNat (0,U,U,0,0,0,0,0,U)))) else none) else none) else (Gz x0 0 x2))
def Wf (x0:List Int) (x1:ByteArray) (x2:AF):Option ByteArray:=(if (decide ((x0.length:Int)>0))=true then (if x1.size+(⟨#[10]⟩:ByteArray).size<=1099511627776 then (D0 (x1++(⟨#[10]⟩:ByteArray)) 0 x2) else none) else (D0 x1 0 x2))
def G0 (x0:List Int) (x1:ByteArray) (x2:Int) (x3:AF):Option ByteArray:=(if (decide (x2<(x0.length:Int)))=true then (if (decide (x2>0))=true then (if x1.size+(⟨#[32]⟩:ByteArray).size<=1099511627776 then (if 0<=x2 then (if x2<(x0.length:Int) then ((BB (x0.getD x2.toNat 0)).bind fun y4=>(if (x1++(⟨#[32]⟩:ByteArray)).size+y4.size<=1099511627776 then (Ex x0 ((x1++(⟨#[32]⟩:ByteArray))++y4) (i64.wrap (x2+1)) x3) else none)) else none) else none) else none) else (if 0<=x2 then (if x2<(x0.length:Int) then ((BB (x0.getD x2.toNat 0)).bind fun y5=>(if x1.size+y5.size<=1099511627776 then (Ex x0 (x1++y5) (i64.wrap (x2+1)) x3) else none)) else none) else none)) else (JS x0 x1 x3))
def fE (x0:ByteArray):Option ByteArray:=((Gv x0).bind fun y1=>(if (y1.2.2 != 0)=true then ((BB y1.2.2).bind fun y2=>(if (⟨#[102,97,117,108,116,32]⟩:ByteArray).size+y2.size<=1099511627776 then (if ((⟨#[102,97,117,108,116,32]⟩:ByteArray)++y2).size+(⟨#[10]⟩:ByteArray).size<=1099511627776 then (some (((⟨#[102,97,117,108,116,32]⟩:ByteArray)++y2)++(⟨#[10]⟩:ByteArray))) else none) else none)) else ((Rh y1.1 y1.2.1).bind fun y3=>(Ex y3.2.1 (⟨#[]⟩:ByteArray) 0 y3.1))))
theorem Wg:rq OE JQ:=jS (by kernel_rfl)
theorem OH:X1 JT JR:=jS (by kernel_rfl)
theorem Wh:M3 OF Gz:=lS (by kernel_rfl)
theorem Wi:M3 OG D0:=lS (by kernel_rfl)
theorem mj:M3 Wf JS:=jS (by kernel_rfl)
theorem JU:X1 G0 Ex:=lS (by kernel_rfl)
theorem vz:LZ fE UA:=cT BA rfl ⟨rfl,rfl⟩ (by kernel_rfl)
def po:=cG Vl (AH Au) (AH Au) kx
def pp:=kE 4 [] [12] 4 po kx
def mm:St->Option (RT (BL.outs Au)):=lG Vk [] [12,69,70,71] 4 (AH Au) pp
def pq:=cG Nh (AH Au) (AH Au) kx
def pr:=kE 2 [] [6,12] 4 pq kx
def mn:St->Option (RT (BL.outs Au)):=lG Vj [] [6,12,56,57,58] 4 (AH Au) pr
def pu:=cG Ni (AH Au) (AH Au) kx
def pw:=kE 0 [(9,1)] [6,9] 2 pu kx
def mo:St->Option (RT (BL.outs Au)):=lG YZ [(9,1)] [6,9,36,37,38] 2 (AH Au) pw
def G1 (x0:List Y) (x1 x2:Int) (x3:AF) (x4:List ByteArray) (x5:List Int):Option ByteArray:=mm ⟨[(12,.ptr 3 0),(69,.lst Z x0),(70,.int .i64 x1),(71,.int .i64 x2)],[.var (Af.enc x3),.rows 9 .str x4,.rows 5 (.int .u8) x5,.var [.self 53,.row 2]]⟩
def Wj (x0:AF) (x1:List ByteArray) (x2:List Int):Option ByteArray:=cG Nh (AH Au) (AH Au) kx ⟨[(6,.ptr 0 0),(12,.ptr 3 0)],[.var (Af.enc x0),.rows 9 .str x1,.rows 5 (.int .u8) x2,.var [.self 53,.row 2]]⟩
def G2 (x0:List AU) (x1 x2:Int) (x3:AF) (x4:List ByteArray) (x5:List Int):Option ByteArray:=mn ⟨[(6,.ptr 0 0),(12,.ptr 3 0),(56,.lst A_ x0),(57,.int .i64 x1),(58,.int .i64 x2)],[.var (Af.enc x3),.rows 9 .str x4,.rows 5 (.int .u8) x5,.var [.self 53,.row 2]]⟩
def JV (x0:AF) (x1:List ByteArray) (x2:List Int):Option ByteArray:=cG Vm (AH Au) (AH Au) kx ⟨[(6,.ptr 0 0),(12,.ptr 3 0)],[.var (Af.enc x0),.rows 9 .str x1,.rows 5 (.int .u8) x2,.var [.self 53,.row 2]]⟩
def Wk (x0:AF) (x1:List ByteArray):Option ByteArray:=cG Ni (AH Au) (AH Au) kx ⟨[(6,.ptr 0 0),(9,.row 1)],[.var (Af.enc x0),.rows 9 .str x1]⟩
def JW (x0:List Int) (x1 x2:Int) (x3:AF) (x4:List ByteArray):Option ByteArray:=mo ⟨[(6,.ptr 0 0),(9,.row 1),(36,.lst .W x0),(37,.int .i64 x1),(38,.int .i64 x2)],[.var (Af.enc x3),.rows 9 .str x4]⟩
def OI (x0:List Y) (x1 x2:Int) (x3:AF) (x4:List ByteArray) (x5:List Int):Option ByteArray:=(if (decide (x2<x1))=true then (if 0<=x2 then (if x2<(x0.length:Int) then (if (((((((x0.getD x2.toNat (0,0,false,false,false,false,([]:List Int),([]:List AB),0,0,0,0,(U,U,0),([]:List Int))).2).2).2).2).2).1)=true then ((Hv ((x0.getD x2.toNat (0,0,false,false,false,false,([]:List Int),([]:List AB),0,0,0,0,(U,U,0),([]:List Int))).1)).bind fun y8=>(if (⟨#[115,101,114,118,101,115,32]⟩:ByteArray).size+y8.size<=1099511627776 then (if ((⟨#[115,101,114,118,101,115,32]⟩:ByteArray)++y8).size+(⟨#[10]⟩:ByteArray).size<=1099511627776 then (B_strings_Builder_WriteString.bind fun _=>(if x5.length+(Cq (((⟨#[115,101,114,118,101,115,32]⟩:ByteArray)++y8)++(⟨#[10]⟩:ByteArray))).length<=68719476736 then (G1 x0 x1 (i64.wrap (x2+1)) x3 x4 (x5++(Cq (((⟨#[115,101,114,118,101,115,32]⟩:ByteArray)++y8)++(⟨#[10]⟩:ByteArray))))) else none)) else none) else none)) else (G1 x0 x1 (i64.wrap (x2+1)) x3 x4 x5)) else none) else none) else (B_strings_Builder_String.bind fun _=>(if rT x5=true then (some (Dp x5)) else none)))
def Wl (x0:AF) (x1:List ByteArray) (x2:List Int):Option ByteArray:=(G1 x0.2.1 (x0.2.1.length:Int) 0 x0 x1 x2)
def OJ (x0:List AU) (x1 x2:Int) (x3:AF) (x4:List ByteArray) (x5:List Int):Option ByteArray:=(if (decide (x2<x1))=true then (if 0<=x2 then (if x2<(x0.length:Int) then ((X2 (x0.getD x2.toNat (0,U,U,0,0,0,0,0,U))).bind fun y6=>(if y6=true then ((Ri (x0.getD x2.toNat (0,U,U,0,0,0,0,0,U))).bind fun y7=>(B_strings_Builder_WriteString.bind fun _=>(if x5.length+(Cq y7).length<=68719476736 then (G2 x0 x1 (i64.wrap (x2+1)) x3 x4 (x5++(Cq y7))) else none))) else (G2 x0 x1 (i64.wrap (x2+1)) x3 x4 x5))) else none) else none) else (Wj x3 x4 x5))
def Wm (x0:AF) (x1:List ByteArray) (x2:List Int):Option ByteArray:=(G2 x0.2.2.2 (x0.2.2.2.length:Int) 0 x0 x1 x2)
def Wn (x0:AF) (x1:List ByteArray):Option ByteArray:=(if (decide ((x1.length:Int)>0))=true then ((UM x1 (⟨#[32]⟩:ByteArray)).bind fun y5=>(if y5.size+(⟨#[10]⟩:ByteArray).size<=1099511627776 then (B_strings_Builder_WriteString.bind fun _=>(if ([]:List Int).length+(Cq (y5++(⟨#[10]⟩:ByteArray))).length<=68719476736 then (JV x0 x1 (([]:List Int)++(Cq (y5++(⟨#[10]⟩:ByteArray))))) else none)) else none)) else (JV x0 x1 ([]:List Int)))
def OK (x0:List Int) (x1 x2:Int) (x3:AF) (x4:List ByteArray):Option ByteArray:=(if (decide (x2<x1))=true then (if 0<=x2 then (if x2<(x0.length:Int) then ((Hv (x0.getD x2.toNat 0)).bind fun y4=>(if x4.length+([y4]:List ByteArray).length<=68719476736 then (JW x0 x1 (i64.wrap (x2+1)) x3 (x4++([y4]:List ByteArray))) else none)) else none) else none) else (Wk x3 x4))
def fF (x0:ByteArray):Option ByteArray:=((N5 x0).bind fun y1=>(if (y1.2.2 != 0)=true then ((Hv y1.2.2).bind fun y2=>(if (⟨#[102,97,117,108,116,32]⟩:ByteArray).size+y2.size<=1099511627776 then (if ((⟨#[102,97,117,108,116,32]⟩:ByteArray)++y2).size+(⟨#[10]⟩:ByteArray).size<=1099511627776 then (some (((⟨#[102,97,117,108,116,32]⟩:ByteArray)++y2)++(⟨#[10]⟩:ByteArray))) else none) else none)) else ((Lz y1.1 y1.2.1).bind fun y3=>(JW y3.2.1 (y3.2.1.length:Int) 0 y3.1 ([]:List ByteArray)))))
theorem Wo:Le6 OI G1:=lS (by kernel_rfl)
theorem mq:M3 Wl Wj:=jS (by kernel_rfl)
theorem Wp:Le6 OJ G2:=lS (by kernel_rfl)
theorem mr:M3 Wm JV:=jS (by kernel_rfl)
theorem mt:PD Wn Wk:=jS (by kernel_rfl)
theorem Wq:rq OK JW:=lS (by kernel_rfl)
theorem v6:LZ fF N4:=cT Au rfl ⟨rfl,rfl⟩ (by kernel_rfl)
def AB6 (x0:List Int):Option Bool:=(some (decide ((x0.length:Int)>1048576)))
theorem AB7:LZ AB6 j_:=cT aZ rfl ⟨rfl,rfl⟩ (by kernel_rfl)
def UR (x0:List Int):Option ByteArray:=((X3 x0).bind fun y1=>((Pz x0 y1).bind fun y2=>(some y2.1)))
theorem kG:LZ UR ML:=cT IU rfl ⟨rfl,rfl⟩ (by kernel_rfl)
def iJ:=cG KA (AH Ay) (AH Ay) kx
def K8:=kE 0 [(7,0),(8,1)] [5,7,8] 2 iJ kx
def Q2:St->Option (RT (BL.outs Ay)):=lG Ql [(7,0),(8,1)] [5,6,7,8,9] 2 (AH Ay) K8
def iK:=kB [(7,0),(8,1)] [5,6,7,8,9] 2 Q2
def SQ:=cG Qk iK (AH Ay) K8
def K9:=kB [(7,0),(8,1)] [5,6,7,8,9] 2 SQ
def HX:=kE 1 [(7,0),(8,1)] [5,6,7,8,9] 2 SQ K8
def iL:=cG J_ K9 (AH Ay) HX
def KF (x0:List AD) (x1:List ByteArray) (x2:Int) (x3:List ByteArray) (x4:Bool) (x5:List (List Int)) (x6:List AD):Option (List (List Int)×List AD×Int):=cG J_ K9 (AH Ay) HX ⟨[(5,.lst AJ x0),(6,.lst .str x1),(7,.row 0),(8,.row 1),(9,.int .i64 x2),(10,.lst .str x3),(73,.bool x4)],[.rows 37 .S x5,.rows 72 AJ x6]⟩
def KG (x0:List AD) (x1:List ByteArray) (x2:Int) (x3:List ByteArray) (x4:Bool) (x5:List (List Int)) (x6:List AD):Option (List (List Int)×List AD×Int):=cG R4 iL (AH Ay) HX ⟨[(5,.lst AJ x0),(6,.lst .str x1),(7,.row 0),(8,.row 1),(9,.int .i64 x2),(10,.lst .str x3),(73,.bool x4)],[.rows 37 .S x5,.rows 72 AJ x6]⟩
def KH (x0:List AD) (x1:List ByteArray) (x2:Int) (x3:List ByteArray) (x4 x5:Bool) (x6:List (List Int)) (x7:List AD):Option (List (List Int)×List AD×Int):=cG Qj K9 (AH Ay) HX ⟨[(5,.lst AJ x0),(6,.lst .str x1),(7,.row 0),(8,.row 1),(9,.int .i64 x2),(10,.lst .str x3),(11,.bool x4),(58,.bool x5)],[.rows 37 .S x6,.rows 72 AJ x7]⟩
def Q3 (x0:List AD) (x1:List (List Int)) (x2:List AD):Option (List (List Int)×List AD×Int):=cG KA (AH Ay) (AH Ay) kx ⟨[(5,.lst AJ x0),(7,.row 0),(8,.row 1)],[.rows 37 .S x1,.rows 72 AJ x2]⟩
def B6 (x0:List AD) (x1:List ByteArray) (x2:Int) (x3:List (List Int)) (x4:List AD):Option (List (List Int)×List AD×Int):=Q2 ⟨[(5,.lst AJ x0),(6,.lst .str x1),(7,.row 0),(8,.row 1),(9,.int .i64 x2)],[.rows 37 .S x3,.rows 72 AJ x4]⟩
def Q4 (x0:ByteArray) (x1:List AD) (x2:Bool):Option (List (List Int)×List AD×Int):=cG Qm (AH Ay) (AH Ay) kx ⟨[(0,.str x0),(5,.lst AJ x1),(25,.bool x2)],[]⟩
def Q5 (x0:List AD) (x1:List ByteArray) (x2:Int) (x3:List ByteArray) (x4:Bool) (x5:List (List Int)) (x6:List AD):Option (List (List Int)×List AD×Int):=((Rj x3).bind fun y6=>(if (!y6.2)=false then ((N6 y6.1).bind fun y7=>(if (!y7)=false then (if ((x5.length:Int)==0)=false then (if ((x6.length:Int)==70)=true then (some (([]:List (List Int)),x0,(i64.wrap (x2+1)))) else (if x6.length+([y6.1]:List AD).length<=68719476736 then (B6 x0 x1 (i64.wrap (x2+1)) x5 (x6++([y6.1]:List AD))) else none)) else (some (([]:List (List Int)),x0,(i64.wrap (x2+1))))) else (some (([]:List (List Int)),x0,(i64.wrap (x2+1)))))) else (some (([]:List (List Int)),x0,(i64.wrap (x2+1))))))
def KI (x0:List AD) (x1:List ByteArray) (x2:Int) (x3:List ByteArray) (x4:Bool) (x5:List (List Int)) (x6:List AD):Option (List (List Int)×List AD×Int):=(if x4=true then (if 0<=(1:Int) then (if 1<(x3.length:Int) then ((P0 (x3.getD (1:Int).toNat U)).bind fun y4=>(if x5.length+([y4.1]:List (List Int)).length<=68719476736 then (if (!y4.2)=false then (if (decide ((x6.length:Int)>0))=false then ((DK (x5++([y4.1]:List (List Int)))).bind fun y5=>(if (!y5)=true then (some (([]:List (List Int)),x0,(i64.wrap (x2+1)))) else (B6 x0 x1 (i64.wrap (x2+1)) (x5++([y4.1]:List (List Int))) x6))) else (some (([]:List (List Int)),x0,(i64.wrap (x2+1))))) else (some (([]:List (List Int)),x0,(i64.wrap (x2+1))))) else none)) else none) else none) else (KF x0 x1 x2 x3 x4 x5 x6))
def KJ (x0:List AD) (x1:List ByteArray) (x2:Int) (x3:List ByteArray) (x4 x5:Bool) (x6:List (List Int)) (x7:List AD):Option (List (List Int)×List AD×Int):=(if (!x4)=true then (some (([]:List (List Int)),x0,(i64.wrap (x2+1)))) else (if 0<=(0:Int) then (if 0<(x3.length:Int) then (if ((x3.getD (0:Int).toNat U).toList==(⟨#[118,105,101,119]⟩:ByteArray).toList)=true then (KG x0 x1 x2 x3 ((x3.length:Int)==2) x6 x7) else (KG x0 x1 x2 x3 false x6 x7)) else none) else none))
def Q6 (x0:List AD) (x1:List (List Int)) (x2:List AD):Option (List (List Int)×List AD×Int):=(if ((x1.length:Int)==0)=true then (some (([]:List (List Int)),x0,1)) else (some (x1,x2,0)))
def KK (x0:List AD) (x1:List ByteArray) (x2:Int) (x3:List (List Int)) (x4:List AD):Option (List (List Int)×List AD×Int):=(if (decide (x2<(x1.length:Int)))=true then (if 0<=x2 then (if x2<(x1.length:Int) then ((UB (x1.getD x2.toNat U)).bind fun y3=>(if y3.2=true then (if ((y3.1.length:Int)==0)=false then (if 0<=(0:Int) then (if 0<(y3.1.length:Int) then (if 0<=(0:Int) then (if 0<((y3.1.getD (0:Int).toNat U).size:Int) then (if ((((y3.1.getD (0:Int).toNat U).data.toList.getD (0:Int).toNat 0).toNat:Int)==35)=true then (B6 x0 x1 (i64.wrap (x2+1)) x3 x4) else (KH x0 x1 x2 y3.1 y3.2 ((((y3.1.getD (0:Int).toNat U).data.toList.getD (0:Int).toNat 0).toNat:Int)==35) x3 x4)) else none) else none) else none) else none) else (B6 x0 x1 (i64.wrap (x2+1)) x3 x4)) else (KH x0 x1 x2 y3.1 y3.2 false x3 x4))) else none) else none) else (Q3 x0 x3 x4))
def Q7 (x0:ByteArray) (x1:List AD) (x2:Bool):Option (List (List Int)×List AD×Int):=((L5 x0).bind fun y2=>(B6 x1 y2 0 ([]:List (List Int)) ([]:List AD)))
def Wr (x0:ByteArray):Option (List (List Int)×List AD×Int):=(if (decide ((x0.size:Int)>4000))=false then ((L5 x0).bind fun y1=>(if (decide ((y1.length:Int)>100))=true then (some (([]:List (List Int)),([]:List AD),(-1:Int))) else (Q4 x0 ([]:List AD) (decide ((y1.length:Int)>100))))) else (some (([]:List (List Int)),([]:List AD),(-1:Int))))
theorem fG:Le7 Q5 KF:=jS (by kernel_rfl)
theorem Q8:Le7 KI KG:=jS (by kernel_rfl)
theorem Q9:Le8 KJ KH:=jS (by kernel_rfl)
theorem fH:M3 Q6 Q3:=jS (by kernel_rfl)
theorem Q_:rq KK B6:=lS (by kernel_rfl)
theorem fI:M3 Q7 Q4:=jS (by kernel_rfl)
theorem mw:LZ Wr Gv:=cT Ay rfl ⟨rfl,rfl⟩ (by kernel_rfl)
def px:=cG Vn (AH Ds) (AH Ds) kx
def ZF:=kE 0 [] [3,4] 0 px kx
def Ws:St->Option (RT (BL.outs Ds)):=lG Yb [] [0,3,4] 0 (AH Ds) ZF
def ZG:=kB [] [0,3,4] 0 Ws
def py:=kB [] [0,3,4] 0 ZG
def pz:=kE 1 [] [0,3,4] 0 ZG ZF
def OL (x0:Int) (x1:Bool) (x2:ByteArray) (x3:Int):Option ByteArray:=cG Ya py (AH Ds) pz ⟨[(0,.int .i64 x0),(3,.bool x1),(4,.str x2),(5,.int .i64 x3)],[]⟩
def JX (x0:Int) (x1:Bool) (x2:ByteArray):Option ByteArray:=Ws ⟨[(0,.int .i64 x0),(3,.bool x1),(4,.str x2)],[]⟩
def OM (x0:Int) (x1:Bool) (x2:ByteArray) (x3:Int):Option ByteArray:=((P1 x3).bind fun y1=>(if (Dp ([y1]:List Int)).size+x2.size<=1099511627776 then (if 10=0 then none else (JX (i64.wrap (Int.tdiv x0 10)) x1 ((Dp ([y1]:List Int))++x2))) else none))
def Ey (x0:Int) (x1:Bool) (x2:ByteArray):Option ByteArray:=(if (x0 != 0)=true then (if 10=0 then none else (if (decide ((Int.tmod x0 10)<0))=true then (OL x0 x1 x2 (i64.wrap (0-(Int.tmod x0 10)))) else (OL x0 x1 x2 (Int.tmod x0 10)))) else (if x1=true then (if (⟨#[45]⟩:ByteArray).size+x2.size<=1099511627776 then (some ((⟨#[45]⟩:ByteArray)++x2)) else none) else (some x2)))
def US (x0:Int):Option ByteArray:=(if (x0==0)=true then (some (⟨#[48]⟩:ByteArray)) else (JX x0 (decide (x0<0)) (⟨#[]⟩:ByteArray)))
theorem Wt:X1 OM OL:=jS (by kernel_rfl)
theorem G3:M3 Ey JX:=lS (by kernel_rfl)
theorem fJ:LZ US BB:=cT Ds rfl ⟨rfl,rfl⟩ (by kernel_rfl)
def mx:=cG Tk (AH BW) (AH BW) kx
def my:=kE 2 [(11,11)] [4,7,11] 12 mx kx
def kH:St->Option (RT (BL.outs BW)):=lG Tj [(11,11)] [4,7,11,39,40,41] 12 (AH BW) my
def mz:=cG MI (AH BW) (AH BW) kx
def m3:=kE 0 [] [1,4,7] 11 mz kx
def kI:St->Option (RT (BL.outs BW)):=lG Vo [] [1,4,7,28,29,30] 11 (AH BW) m3
def F7 (x0:List AD) (x1 x2:Int) (x3:List Y) (x4:List AC) (x5:List AU) (x6:List (List Int)) (x7:List Y) (x8:List AC) (x9:List AU) (x10:List (List Int)) (x11:List Int):Option (AF×List Int×Bool):=kH ⟨[(4,.ptr 3 0),(7,.ptr 10 0),(11,.row 11),(39,.lst AJ x0),(40,.int .i64 x1),(41,.int .i64 x2)],[.rows 49 Z x3,.rows 112 AL x4,.rows 42 A_ x5,.var [.lst .S x6,.row 0,.row 1,.row 2],.dead,.dead,.dead,.rows 49 Z x7,.rows 112 AL x8,.rows 42 A_ x9,.var [.lst .S x10,.row 7,.row 8,.row 9],.rows 3 .W x11]⟩
def UT (x0:List AD) (x1:List Y) (x2:List AC) (x3:List AU) (x4:List (List Int)) (x5:List Y) (x6:List AC) (x7:List AU) (x8:List (List Int)):Option (AF×List Int×Bool):=cG MI (AH BW) (AH BW) kx ⟨[(1,.lst AJ x0),(4,.ptr 3 0),(7,.ptr 10 0)],[.rows 49 Z x1,.rows 112 AL x2,.rows 42 A_ x3,.var [.lst .S x4,.row 0,.row 1,.row 2],.dead,.dead,.dead,.rows 49 Z x5,.rows 112 AL x6,.rows 42 A_ x7,.var [.lst .S x8,.row 7,.row 8,.row 9]]⟩
def F8 (x0 x1:List AD) (x2 x3:Int) (x4:List Y) (x5:List AC) (x6:List AU) (x7:List (List Int)) (x8:List Y) (x9:List AC) (x10:List AU) (x11:List (List Int)):Option (AF×List Int×Bool):=kI ⟨[(1,.lst AJ x0),(4,.ptr 3 0),(7,.ptr 10 0),(28,.lst AJ x1),(29,.int .i64 x2),(30,.int .i64 x3)],[.rows 49 Z x4,.rows 112 AL x5,.rows 42 A_ x6,.var [.lst .S x7,.row 0,.row 1,.row 2],.dead,.dead,.dead,.rows 49 Z x8,.rows 112 AL x9,.rows 42 A_ x10,.var [.lst .S x11,.row 7,.row 8,.row 9]]⟩
def UU (x0:List AD) (x1:Bool) (x2:List Y) (x3:List AC) (x4:List AU) (x5:List (List Int)) (x6:List Y) (x7:List AC) (x8:List AU) (x9:List (List Int)):Option (AF×List Int×Bool):=cG Tl (AH BW) (AH BW) kx ⟨[(1,.lst AJ x0),(4,.ptr 3 0),(7,.ptr 10 0),(26,.bool x1)],[.rows 49 Z x2,.rows 112 AL x3,.rows 42 A_ x4,.var [.lst .S x5,.row 0,.row 1,.row 2],.dead,.dead,.dead,.rows 49 Z x6,.rows 112 AL x7,.rows 42 A_ x8,.var [.lst .S x9,.row 7,.row 8,.row 9]]⟩
def MX (x0:List AD) (x1 x2:Int) (x3:List Y) (x4:List AC) (x5:List AU) (x6:List (List Int)) (x7:List Y) (x8:List AC) (x9:List AU) (x10:List (List Int)) (x11:List Int):Option (AF×List Int×Bool):=(if (decide (x2<x1))=true then (if 0<=x2 then (if x2<(x0.length:Int) then ((IY (x0.getD x2.toNat (0,0,0,0,U,U)) x2 (x10,x7,x8,x9)).bind fun y3=>((X4 y3.1).bind fun y4=>(if x11.length+([y4]:List Int).length<=68719476736 then (F7 x0 x1 (i64.wrap (x2+1)) x3 x4 x5 x6 y3.2.2.1 y3.2.2.2.1 y3.2.2.2.2 y3.2.1 (x11++([y4]:List Int))) else none))) else none) else none) else ((Kj (x10,x7,x8,x9)).bind fun y5=>(some (y5,x11,true))))
def UV (x0:List AD) (x1:List Y) (x2:List AC) (x3:List AU) (x4:List (List Int)) (x5:List Y) (x6:List AC) (x7:List AU) (x8:List (List Int)):Option (AF×List Int×Bool):=(F7 x0 (x0.length:Int) 0 x1 x2 x3 x4 x5 x6 x7 x8 ([]:List Int))
def MY (x0 x1:List AD) (x2 x3:Int) (x4:List Y) (x5:List AC) (x6:List AU) (x7:List (List Int)) (x8:List Y) (x9:List AC) (x10:List AU) (x11:List (List Int)):Option (AF×List Int×Bool):=(if (decide (x3<x2))=true then (if 0<=x3 then (if x3<(x1.length:Int) then ((N7 (x1.getD x3.toNat (0,0,0,0,U,U))).bind fun y2=>(if (!y2)=true then (some (([],([]:List Y),([]:List AC),([]:List AU)),[],false)) else (F8 x0 x1 x2 (i64.wrap (x3+1)) x4 x5 x6 x7 x8 x9 x10 x11))) else none) else none) else (UT x0 x4 x5 x6 x7 x8 x9 x10 x11))
def UW (x0:List AD) (x1:Bool) (x2:List Y) (x3:List AC) (x4:List AU) (x5:List (List Int)) (x6:List Y) (x7:List AC) (x8:List AU) (x9:List (List Int)):Option (AF×List Int×Bool):=(F8 x0 x0 (x0.length:Int) 0 x2 x3 x4 x5 x6 x7 x8 x9)
def cL (x0:List (List Int)) (x1:List AD):Option (AF×List Int×Bool):=((Rk x0).bind fun y1=>(if (!y1.2)=false then (if (decide ((x1.length:Int)>70))=true then (some (([],([]:List Y),([]:List AC),([]:List AU)),[],false)) else (UU x1 (decide ((x1.length:Int)>70)) ([]:List Y) ([]:List AC) ([]:List AU) ([]:List (List Int)) y1.1.2.1 y1.1.2.2.1 y1.1.2.2.2 y1.1.1)) else (some (([],([]:List Y),([]:List AC),([]:List AU)),[],false))))
theorem UX:AGz MX F7:=lS (by kernel_rfl)
theorem kJ:Le9 UV UT:=jS (by kernel_rfl)
theorem UY:AGz MY F8:=lS (by kernel_rfl)
theorem kK:ADV UW UU:=jS (by kernel_rfl)
theorem sq:PD cL Lz:=cT BW rfl ⟨rfl,rfl⟩ (by kernel_rfl)
def jO (x0 x1:ByteArray):Option Bool:=(if (decide ((x0.size:Int)<=(x1.size:Int)))=true then (if 0<=(0:Int) then (if 0<=(x0.size:Int) then (if (x0.size:Int)<=(x1.size:Int) then (some ((x1.extract (0:Int).toNat (x0.size:Int).toNat).toList==x0.toList)) else none) else none) else none) else (some false))
theorem yG:PD jO QU:=cT QO rfl ⟨rfl,rfl⟩ (by kernel_rfl)
def m4:=cG Tm (AH Bb) (AH Bb) kx
def m5:=kE 2 [(10,2)] [4,7,10] 3 m4 kx
def kL:St->Option (RT (BL.outs Bb)):=lG Vr [(10,2)] [1,4,7,10,11] 3 (AH Bb) m5
def m6:=cG MJ (AH Bb) (AH Bb) kx
def Wu:=kE 0 [] [1,4,7,8] 2 m6 kx
def UZ:St->Option (RT (BL.outs Bb)):=lG Vq [] [1,4,7,8,9] 2 (AH Bb) Wu
def m7:=kB [] [1,4,7,8,9] 2 UZ
def Ua (x0:List AD) (x1:Bool) (x2:Int) (x3:Bool) (x4 x5:AF):Option (AF×List Int×Bool):=cG Vp m7 (AH Bb) Wu ⟨[(1,.lst AJ x0),(4,.ptr 0 0),(7,.ptr 1 0),(8,.bool x1),(9,.int .i64 x2),(23,.bool x3)],[.var (Af.enc x4),.var (Af.enc x5)]⟩
def F9 (x0:List AD) (x1:Int) (x2 x3:AF) (x4:List Int):Option (AF×List Int×Bool):=kL ⟨[(1,.lst AJ x0),(4,.ptr 0 0),(7,.ptr 1 0),(10,.row 2),(11,.int .i64 x1)],[.var (Af.enc x2),.var (Af.enc x3),.rows 3 .W x4]⟩
def Ie (x0:List AD) (x1:Bool) (x2 x3:AF):Option (AF×List Int×Bool):=cG MJ (AH Bb) (AH Bb) kx ⟨[(1,.lst AJ x0),(4,.ptr 0 0),(7,.ptr 1 0),(8,.bool x1)],[.var (Af.enc x2),.var (Af.enc x3)]⟩
def EV (x0:List AD) (x1:Bool) (x2:Int) (x3 x4:AF):Option (AF×List Int×Bool):=UZ ⟨[(1,.lst AJ x0),(4,.ptr 0 0),(7,.ptr 1 0),(8,.bool x1),(9,.int .i64 x2)],[.var (Af.enc x3),.var (Af.enc x4)]⟩
def Ub (x0:List AD) (x1:Bool) (x2:Int) (x3:Bool) (x4 x5:AF):Option (AF×List Int×Bool):=(if (decide ((x0.length:Int)<=70))=true then (if 0<=x2 then (if x2<(x0.length:Int) then ((N6 (x0.getD x2.toNat (0,0,0,0,U,U))).bind fun y2=>(EV x0 y2 (i64.wrap (x2+1)) x4 x5)) else none) else none) else (EV x0 false (i64.wrap (x2+1)) x4 x5))
def MZ (x0:List AD) (x1:Int) (x2 x3:AF) (x4:List Int):Option (AF×List Int×Bool):=(if (decide (x1<(x0.length:Int)))=true then (if 0<=x1 then (if x1<(x0.length:Int) then ((TI x1 (x0.getD x1.toNat (0,0,0,0,U,U)) x3).bind fun y3=>(if x4.length+([y3.1]:List Int).length<=68719476736 then (F9 x0 (i64.wrap (x1+1)) x2 y3.2 (x4++([y3.1]:List Int))) else none)) else none) else none) else ((UC x3).bind fun y4=>(some (y4,x4,true))))
def Uc (x0:List AD) (x1:Bool) (x2 x3:AF):Option (AF×List Int×Bool):=(if (!x1)=true then (some ((([]:List (List Int)),([]:List Y),([]:List AC),([]:List AU)),([]:List Int),false)) else (F9 x0 0 x2 x3 ([]:List Int)))
def Ma (x0:List AD) (x1:Bool) (x2:Int) (x3 x4:AF):Option (AF×List Int×Bool):=(if (decide (x2<(x0.length:Int)))=true then (if x1=true then (Ua x0 x1 x2 x1 x3 x4) else (Ie x0 x1 x3 x4)) else (Ie x0 x1 x3 x4))
def cM (x0:List (List Int)) (x1:List AD):Option (AF×List Int×Bool):=((L6 x0).bind fun y1=>(EV x1 y1.2 0 (([]:List (List Int)),([]:List Y),([]:List AC),([]:List AU)) y1.1))
theorem kM:Le6 Ub Ua:=jS (by kernel_rfl)
theorem Ud:rq MZ F9:=lS (by kernel_rfl)
theorem kN:X1 Uc Ie:=jS (by kernel_rfl)
theorem Ue:rq Ma EV:=lS (by kernel_rfl)
theorem ss:PD cM Rh:=cT Bb rfl ⟨rfl,rfl⟩ (by kernel_rfl)
def iM:=cG KB (AH BQ) (AH BQ) kx
def iN:=kE 0 [] [6] 3 iM kx
def fK:St->Option (RT (BL.outs BQ)):=lG R5 [] [6,31,32,33] 3 (AH BQ) iN
def RA (x0:List (List Int)) (x1:List AD):Option (List (List Int)×List AD×Int):=cG KB (AH BQ) (AH BQ) kx ⟨[(6,.ptr 2 0)],[.rows 37 .S x0,.rows 72 AJ x1,.var [.row 0,.row 1]]⟩
def G4 (x0:List ByteArray) (x1 x2:Int) (x3:List (List Int)) (x4:List AD):Option (List (List Int)×List AD×Int):=fK ⟨[(6,.ptr 2 0),(31,.lst .str x0),(32,.int .i64 x1),(33,.int .i64 x2)],[.rows 37 .S x3,.rows 72 AJ x4,.var [.row 0,.row 1]]⟩
def RB (x0:List ByteArray) (x1:Bool):Option (List (List Int)×List AD×Int):=cG Qn (AH BQ) (AH BQ) kx ⟨[(5,.lst .str x0),(30,.bool x1)],[]⟩
def G5 (x0:ByteArray) (x1:List ByteArray):Option (List (List Int)×List AD×Int):=cG Qo (AH BQ) (AH BQ) kx ⟨[(0,.str x0),(5,.lst .str x1)],[]⟩
def RC (x0:List (List Int)) (x1:List AD):Option (List (List Int)×List AD×Int):=(if ((x0.length:Int)==0)=true then (some ([],[],1)) else (some (x0,x1,0)))
def KL (x0:List ByteArray) (x1 x2:Int) (x3:List (List Int)) (x4:List AD):Option (List (List Int)×List AD×Int):=(if (decide (x2<x1))=true then (if 0<=x2 then (if x2<(x0.length:Int) then ((MM (x0.getD x2.toNat U) (x3,x4)).bind fun y2=>(if (!y2.1)=true then (some ([],[],(i64.wrap (x2+1)))) else (G4 x0 x1 (i64.wrap (x2+1)) y2.2.1 y2.2.2))) else none) else none) else (RA x3 x4))
def RD (x0:List ByteArray) (x1:Bool):Option (List (List Int)×List AD×Int):=(G4 x0 (x0.length:Int) 0 ([]:List (List Int)) ([]:List AD))
def RE (x0:ByteArray) (x1:List ByteArray):Option (List (List Int)×List AD×Int):=(if (decide ((x0.size:Int)>4000))=false then (if (decide ((x1.length:Int)>100))=true then (some ([],[],(-1:Int))) else (RB x1 (decide ((x1.length:Int)>100)))) else (some ([],[],(-1:Int))))
def Ww (x0:ByteArray):Option (List (List Int)×List AD×Int):=((Ge x0 (⟨#[10]⟩:ByteArray)).bind fun y1=>(if 0<=(i64.wrap ((y1.length:Int)-1)) then (if (i64.wrap ((y1.length:Int)-1))<(y1.length:Int) then (if ((y1.getD (i64.wrap ((y1.length:Int)-1)).toNat U).toList==(⟨#[]⟩:ByteArray).toList)=true then (if 0<=(0:Int) then (if 0<=(i64.wrap ((y1.length:Int)-1)) then (if (i64.wrap ((y1.length:Int)-1))<=(y1.length:Int) then (G5 x0 ((y1.take (i64.wrap ((y1.length:Int)-1)).toNat).drop (0:Int).toNat)) else none) else none) else none) else (G5 x0 y1)) else none) else none))
theorem fL:PD RC RA:=jS (by kernel_rfl)
theorem RF:rq KL G4:=lS (by kernel_rfl)
theorem fM:PD RD RB:=jS (by kernel_rfl)
theorem fN:PD RE G5:=jS (by kernel_rfl)
theorem m8:LZ Ww N5:=cT BQ rfl ⟨rfl,rfl⟩ (by kernel_rfl)
def fO (x0:Int):Option ByteArray:=((UN x0).bind fun y1=>(some y1))
theorem v7:LZ fO Hv:=cT Nj rfl ⟨rfl,rfl⟩ (by kernel_rfl)
def yH (x0:AU):Option Bool:=(some (decide (x0.2.2.2.2.1>=0)))
theorem yI:LZ yH X2:=cT QP rfl ⟨rfl,rfl⟩ (by kernel_rfl)
def cN (x0:AU):Option ByteArray:=(if (x0.1==1)=true then (if (⟨#[112,117,116,32]⟩:ByteArray).size+x0.2.1.size<=1099511627776 then (if ((⟨#[112,117,116,32]⟩:ByteArray)++x0.2.1).size+(⟨#[10]⟩:ByteArray).size<=1099511627776 then (some (((⟨#[112,117,116,32]⟩:ByteArray)++x0.2.1)++(⟨#[10]⟩:ByteArray))) else none) else none) else (if (⟨#[103,101,116,32]⟩:ByteArray).size+x0.2.1.size<=1099511627776 then (if ((⟨#[103,101,116,32]⟩:ByteArray)++x0.2.1).size+(⟨#[32]⟩:ByteArray).size<=1099511627776 then (if (((⟨#[103,101,116,32]⟩:ByteArray)++x0.2.1)++(⟨#[32]⟩:ByteArray)).size+x0.2.2.2.2.2.2.2.2.size<=1099511627776 then (if ((((⟨#[103,101,116,32]⟩:ByteArray)++x0.2.1)++(⟨#[32]⟩:ByteArray))++x0.2.2.2.2.2.2.2.2).size+(⟨#[10]⟩:ByteArray).size<=1099511627776 then (some (((((⟨#[103,101,116,32]⟩:ByteArray)++x0.2.1)++(⟨#[32]⟩:ByteArray))++x0.2.2.2.2.2.2.2.2)++(⟨#[10]⟩:ByteArray))) else none) else none) else none) else none))
theorem su:LZ cN Ri:=cT Lt rfl ⟨rfl,rfl⟩ (by kernel_rfl)

def kO:=cG K4 (AH AY) (AH AY) kx
def Mb:=kE 0 [] [0,5,6] 2 kO kx
def SS:St->Option (RT (BL.outs AY)):=lG R7 [] [0,5,6,7] 2 (AH AY) Mb
def kP:=kB [] [0,5,6,7] 2 SS
def Uf:=cG R6 kP (AH AY) Mb
def kQ:=kB [] [0,5,6,7] 2 Uf
def Ug:=kE 1 [] [0,5,6,7] 2 Uf Mb
def kR:=cG Tq kQ (AH AY) Ug
def Mc:=kE 2 [] [0,5,6,7] 2 kR Ug
def ST:St->Option (RT (BL.outs AY)):=lG Tp [] [0,5,6,7,8] 2 (AH AY) Mc
def SU:=cG SC (AH AY) (AH AY) kx
def SV:=kB [] [6] 2 SU
def SW:=kE 6 [] [6] 2 SU kx
def iO:=kE 7 [] [6] 2 SV SW
def iP:St->Option (RT (BL.outs AY)):=lG SA [] [6,11] 2 (AH AY) iO
def iQ:=kE 9 [] [6] 2 SV SW
def iR:St->Option (RT (BL.outs AY)):=lG SB [] [6,12] 2 (AH AY) iQ
def iS:=cG K3 (AH AY) (AH AY) kx
def K_:=kE 4 [] [0,6] 2 iS kx
def SX:St->Option (RT (BL.outs AY)):=lG R_ [] [0,5,6,9] 2 (AH AY) K_
def kS:=kB [] [0,5,6,7,8] 2 ST
def Uh:=cG To kS (AH AY) Mc
def iT:=kB [] [0,5,6,7,8] 2 Uh
def iU:=kE 3 [] [0,5,6,7,8] 2 Uh Mc
def iV:=kB [] [0,5,6,9] 2 SX
def SY:=cG R9 iV (AH AY) K_
def iW:=kB [] [0,5,6,9] 2 SY
def iX:=kE 5 [] [0,5,6,9] 2 SY K_
def HY (x0:ByteArray) (x1 x2:Int) (x3:AM) (x4:At):Option (ByteArray×AM):=cG Tn iT (AH AY) iU ⟨[(0,.ptr 0 0),(5,.ptr 1 0),(6,.str x0),(7,.int .i64 x1),(8,.int .i64 x2)],[.var (Ao.enc x3),.var [.lst .S x4.1,.lst AJ x4.2]]⟩
def HZ (x0:ByteArray) (x1 x2:Int) (x3:AM) (x4:At):Option (ByteArray×AM):=ST ⟨[(0,.ptr 0 0),(5,.ptr 1 0),(6,.str x0),(7,.int .i64 x1),(8,.int .i64 x2)],[.var (Ao.enc x3),.var [.lst .S x4.1,.lst AJ x4.2]]⟩
def Ha (x0:ByteArray) (x1:Int) (x2:AM) (x3:At):Option (ByteArray×AM):=cG R8 iW (AH AY) iX ⟨[(0,.ptr 0 0),(5,.ptr 1 0),(6,.str x0),(9,.int .i64 x1)],[.var (Ao.enc x2),.var [.lst .S x3.1,.lst AJ x3.2]]⟩
def Hc (x0:ByteArray) (x1:Int) (x2:AM) (x3:At):Option (ByteArray×AM):=iP ⟨[(6,.str x0),(11,.int .i64 x1)],[.var (Ao.enc x2),.var [.lst .S x3.1,.lst AJ x3.2]]⟩
def Hd (x0:ByteArray) (x1:Int) (x2:AM) (x3:At):Option (ByteArray×AM):=iR ⟨[(6,.str x0),(12,.int .i64 x1)],[.var (Ao.enc x2),.var [.lst .S x3.1,.lst AJ x3.2]]⟩
def LA (x0:ByteArray) (x1:AM) (x2:At):Option (ByteArray×AM):=cG K3 (AH AY) (AH AY) kx ⟨[(0,.ptr 0 0),(6,.str x0)],[.var (Ao.enc x1),.var [.lst .S x2.1,.lst AJ x2.2]]⟩
def FD (x0:ByteArray) (x1:Int) (x2:AM) (x3:At):Option (ByteArray×AM):=SX ⟨[(0,.ptr 0 0),(5,.ptr 1 0),(6,.str x0),(9,.int .i64 x1)],[.var (Ao.enc x2),.var [.lst .S x3.1,.lst AJ x3.2]]⟩
def SZ (x0:ByteArray) (x1:AM) (x2:At):Option (ByteArray×AM):=cG K4 (AH AY) (AH AY) kx ⟨[(0,.ptr 0 0),(5,.ptr 1 0),(6,.str x0)],[.var (Ao.enc x1),.var [.lst .S x2.1,.lst AJ x2.2]]⟩
def FE (x0:ByteArray) (x1:Int) (x2:AM) (x3:At):Option (ByteArray×AM):=SS ⟨[(0,.ptr 0 0),(5,.ptr 1 0),(6,.str x0),(7,.int .i64 x1)],[.var (Ao.enc x2),.var [.lst .S x3.1,.lst AJ x3.2]]⟩
def Sa (x0:ByteArray) (x1 x2:Int) (x3:AM) (x4:At):Option (ByteArray×AM):=(if 0<=x1 then (if x1<(x4.1.length:Int) then (if 0<=x2 then (if x2<((x4.1.getD x1.toNat ([]:List Int)).length:Int) then ((BB ((x4.1.getD x1.toNat ([]:List Int)).getD x2.toNat 0)).bind fun y2=>(if x0.size+y2.size<=1099511627776 then (HZ (x0++y2) x1 (i64.wrap (x2+1)) x3 x4) else none)) else none) else none) else none) else none)
def He (x0:ByteArray) (x1 x2:Int) (x3:AM) (x4:At):Option (ByteArray×AM):=(if 0<=x1 then (if x1<(x4.1.length:Int) then (if (decide (x2<((x4.1.getD x1.toNat ([]:List Int)).length:Int)))=true then (if (decide (x2>0))=true then (if x0.size+(⟨#[44]⟩:ByteArray).size<=1099511627776 then (HY (x0++(⟨#[44]⟩:ByteArray)) x1 x2 x3 x4) else none) else (HY x0 x1 x2 x3 x4)) else (if x0.size+(⟨#[10]⟩:ByteArray).size<=1099511627776 then (FE (x0++(⟨#[10]⟩:ByteArray)) (i64.wrap (x1+1)) x3 x4) else none)) else none) else none)
def LB (x0:ByteArray) (x1:Int) (x2:AM) (x3:At):Option (ByteArray×AM):=(if 0<=x1 then (if x1<(x3.2.length:Int) then ((UE (x3.2.getD x1.toNat (0,0,0,0,U,U))).bind fun y5=>((Cy 120 x2).bind fun y6=>(if y6.1=true then ((F3 ([(⟨#[112,117,116,32,49,32,97]⟩:ByteArray),(⟨#[112,117,116,32,120,32,97,32,98]⟩:ByteArray),(⟨#[118,105,101,119,32,49]⟩:ByteArray),(⟨#[103,101,116,32,57,32,97]⟩:ByteArray),(⟨#[102,97,108,108]⟩:ByteArray),(⟨#[119,104,97,116]⟩:ByteArray),(⟨#[7]⟩:ByteArray),(⟨#[100,101,108,105,118,101,114,32,49,32,50]⟩:ByteArray),(⟨#[118,105,101,119,32,49,44,44,50]⟩:ByteArray)]:List ByteArray) y6.2).bind fun y7=>(if x0.size+y7.1.size<=1099511627776 then (if (x0++y7.1).size+(⟨#[10]⟩:ByteArray).size<=1099511627776 then (FD ((x0++y7.1)++(⟨#[10]⟩:ByteArray)) (i64.wrap (x1+1)) y7.2 x3) else none) else none)) else (if x0.size+y5.size<=1099511627776 then (if (x0++y5).size+(⟨#[10]⟩:ByteArray).size<=1099511627776 then (FD ((x0++y5)++(⟨#[10]⟩:ByteArray)) (i64.wrap (x1+1)) y6.2 x3) else none) else none)))) else none) else none)
def LC (x0:ByteArray) (x1:Int) (x2:AM) (x3:At):Option (ByteArray×AM):=(if (decide (x1<70))=true then (if x0.size+(⟨#[102,97,108,108,32,49,10]⟩:ByteArray).size<=1099511627776 then (Hc (x0++(⟨#[102,97,108,108,32,49,10]⟩:ByteArray)) (i64.wrap (x1+1)) x2 x3) else none) else (some (x0,x2)))
def LD (x0:ByteArray) (x1:Int) (x2:AM) (x3:At):Option (ByteArray×AM):=(if (decide (x1<100))=true then (if x0.size+(⟨#[10]⟩:ByteArray).size<=1099511627776 then (Hd (x0++(⟨#[10]⟩:ByteArray)) (i64.wrap (x1+1)) x2 x3) else none) else (some (x0,x2)))
def LE (x0:ByteArray) (x1:AM) (x2:At):Option (ByteArray×AM):=((CM 30 x1).bind fun y8=>(if (y8.1==0)=true then (if (⟨#[35,32,102,105,114,115,116,10]⟩:ByteArray).size+x0.size<=1099511627776 then (some (((⟨#[35,32,102,105,114,115,116,10]⟩:ByteArray)++x0),y8.2)) else none) else (if (y8.1==1)=true then ((F3 ([(⟨#[]⟩:ByteArray),(⟨#[10]⟩:ByteArray),(⟨#[35]⟩:ByteArray),(⟨#[118,105,101,119,32,48,10]⟩:ByteArray),(⟨#[118,105,101,119,32,49,44,49,10]⟩:ByteArray),(⟨#[118,105,101,119,10]⟩:ByteArray),(⟨#[103,101,116,32,49,32,97,10]⟩:ByteArray),(⟨#[118,105,101,119,32,49]⟩:ByteArray),(⟨#[118,105,101,119,32,48,49,10]⟩:ByteArray)]:List ByteArray) y8.2).bind fun y9=>(some (y9.1,y9.2))) else (if (y8.1==2)=true then (if 0<=(0:Int) then (if 0<=(i64.wrap ((x0.size:Int)-1)) then (if (i64.wrap ((x0.size:Int)-1))<=(x0.size:Int) then (some ((x0.extract (0:Int).toNat (i64.wrap ((x0.size:Int)-1)).toNat),y8.2)) else none) else none) else none) else (if (y8.1==3)=true then (Hc x0 0 y8.2 x2) else (if (y8.1==4)=true then (Hd x0 0 y8.2 x2) else (if (y8.1==5)=true then (if (decide ((x0.size:Int)<4000))=true then (if x0.size+(⟨#[35]⟩:ByteArray).size<=1099511627776 then ((CM 2 y8.2).bind fun y10=>((UF (i64.wrap ((i64.wrap ((i64.wrap (4000-(x0.size:Int)))-1))+y10.1)) 32).bind fun y11=>(if (x0++(⟨#[35]⟩:ByteArray)).size+y11.size<=1099511627776 then (some (((x0++(⟨#[35]⟩:ByteArray))++y11),y10.2)) else none))) else none) else (some (x0,y8.2))) else (some (x0,y8.2)))))))))
def Hf (x0:ByteArray) (x1:Int) (x2:AM) (x3:At):Option (ByteArray×AM):=(if (decide (x1<(x3.2.length:Int)))=true then ((Cy 16 x2).bind fun y3=>(if y3.1=true then ((F3 ([(⟨#[10]⟩:ByteArray),(⟨#[32,32,10]⟩:ByteArray),(⟨#[35,32,97,32,119,111,114,100,10]⟩:ByteArray),(⟨#[32,32,35,32,98,10]⟩:ByteArray)]:List ByteArray) y3.2).bind fun y4=>(if x0.size+y4.1.size<=1099511627776 then (Ha (x0++y4.1) x1 y4.2 x3) else none)) else (Ha x0 x1 y3.2 x3))) else (LA x0 x2 x3))
def Sb (x0:ByteArray) (x1:AM) (x2:At):Option (ByteArray×AM):=(FD x0 0 x1 x2)
def LF (x0:ByteArray) (x1:Int) (x2:AM) (x3:At):Option (ByteArray×AM):=(if (decide (x1<(x3.1.length:Int)))=true then (if x0.size+(⟨#[118,105,101,119,32]⟩:ByteArray).size<=1099511627776 then (HZ (x0++(⟨#[118,105,101,119,32]⟩:ByteArray)) x1 0 x2 x3) else none) else (SZ x0 x2 x3))
def ZH (x1:List Int) (b0:AM):Option (ByteArray×AM):=((UD x1 b0).bind fun y1=>(FE (⟨#[]⟩:ByteArray) 0 y1.2 y1.1))
theorem iY:rq Sa HY:=jS (by kernel_rfl)
theorem Sc:rq He HZ:=lS (by kernel_rfl)
theorem iZ:X1 LB Ha:=jS (by kernel_rfl)
theorem Sd:X1 LC Hc:=lS (by kernel_rfl)
theorem Se:X1 LD Hd:=lS (by kernel_rfl)
theorem ia:M3 LE LA:=jS (by kernel_rfl)
theorem Sf:X1 Hf FD:=lS (by kernel_rfl)
theorem ib:M3 Sb SZ:=jS (by kernel_rfl)
theorem Sg:X1 LF FE:=lS (by kernel_rfl)
theorem p8:PD ZH Pz:=cT AY rfl ⟨rfl,rfl⟩ (by kernel_rfl)
def sw:=cG bO (AH Ea) (AH Ea) kx
def cO:=kE 0 [] [0,3] 0 sw kx
def ZI:St->Option (RT (BL.outs Ea)):=lG bN [] [0,3,4] 0 (AH Ea) cO
def sx:=kB [] [0,3,4] 0 ZI
def ZJ (x0:List Int) (x1 x2:Int) (x3:Bool):Option AM:=cG bM sx (AH Ea) cO ⟨[(0,.lst (.int .u8) x0),(3,.int .i64 x1),(4,.int .i64 x2),(15,.bool x3)],[]⟩
def Km (x0:List Int) (x1 x2:Int):Option AM:=ZI ⟨[(0,.lst (.int .u8) x0),(3,.int .i64 x1),(4,.int .i64 x2)],[]⟩
def ZK (x0:List Int) (x1 x2:Int) (x3:Bool):Option AM:=(if 0<=x2 then (if x2<(x0.length:Int) then (Km x0 (NL .i64 (i64.wrap ((i64.wrap ((i64.wrap (x1*131))+(i64.wrap (x0.getD x2.toNat 0))))+7)) 1073741823) (i64.wrap (x2+1))) else none) else none)
def Kn (x0:List Int) (x1 x2:Int):Option AM:=(if (decide (x2<(x0.length:Int)))=true then (if (decide (x2<4000))=true then (ZJ x0 x1 x2 (decide (x2<4000))) else (some (x0,0,x1))) else (some (x0,0,x1)))
def yJ (x0:List Int):Option AM:=(Km x0 (i64.wrap (14301+(x0.length:Int))) 0)
theorem p9:X1 ZK ZJ:=jS (by kernel_rfl)
theorem P6:M3 Kn Km:=lS (by kernel_rfl)
theorem yK:LZ yJ X3:=cT Ea rfl ⟨rfl,rfl⟩ (by kernel_rfl)
def m9:=cG Nk (AH C1) (AH C1) kx
def m_:=kE 0 [(3,0)] [0,3,4] 1 m9 kx
def kT:St->Option (RT (BL.outs C1)):=lG Vs [(3,0)] [0,3,4,5] 1 (AH C1) m_
def Ui (x0:ByteArray) (x1:Int) (x2:List ByteArray):Option (List ByteArray):=cG Nk (AH C1) (AH C1) kx ⟨[(0,.str x0),(3,.row 0),(4,.int .i64 x1)],[.rows 9 .str x2]⟩
def F_ (x0:ByteArray) (x1 x2:Int) (x3:List ByteArray):Option (List ByteArray):=kT ⟨[(0,.str x0),(3,.row 0),(4,.int .i64 x1),(5,.int .i64 x2)],[.rows 9 .str x3]⟩
def Uj (x0:ByteArray) (x1:Int) (x2:List ByteArray):Option (List ByteArray):=(if (decide (x1<(x0.size:Int)))=true then (if 0<=x1 then (if x1<=(x0.size:Int) then (if (x0.size:Int)<=(x0.size:Int) then (if x2.length+([(x0.extract x1.toNat (x0.size:Int).toNat)]:List ByteArray).length<=68719476736 then (some (x2++([(x0.extract x1.toNat (x0.size:Int).toNat)]:List ByteArray))) else none) else none) else none) else none) else (some x2))
def Md (x0:ByteArray) (x1 x2:Int) (x3:List ByteArray):Option (List ByteArray):=(if (decide (x2<(x0.size:Int)))=true then (if 0<=x2 then (if x2<(x0.size:Int) then (if (((x0.data.toList.getD x2.toNat 0).toNat:Int)==10)=true then (if 0<=x1 then (if x1<=x2 then (if x2<=(x0.size:Int) then (if x3.length+([(x0.extract x1.toNat x2.toNat)]:List ByteArray).length<=68719476736 then (F_ x0 (i64.wrap (x2+1)) (i64.wrap (x2+1)) (x3++([(x0.extract x1.toNat x2.toNat)]:List ByteArray))) else none) else none) else none) else none) else (F_ x0 x1 (i64.wrap (x2+1)) x3)) else none) else none) else (Ui x0 x1 x3))
def cQ (x0:ByteArray):Option (List ByteArray):=(F_ x0 0 0 ([]:List ByteArray))
theorem kU:M3 Uj Ui:=jS (by kernel_rfl)
theorem Uk:X1 Md F_:=lS (by kernel_rfl)
theorem sy:LZ cQ L5:=cT C1 rfl ⟨rfl,rfl⟩ (by kernel_rfl)
def p_:=cG Nl (AH CN) (AH CN) kx
def P7:=kE 0 [(4,0)] [4] 1 p_ kx
def Wx:St->Option (RT (BL.outs CN)):=lG Vt [(4,0)] [0,4,5,6] 1 (AH CN) P7
def qA:=kB [(4,0)] [0,4,5,6] 1 Wx
def ZL:=cG Ye qA (AH CN) P7
def ZM:=kB [(4,0)] [0,4,5,6] 1 ZL
def ZN:=kE 1 [(4,0)] [0,4,5,6] 1 ZL P7
def JY (x0:ByteArray) (x1 x2:Int) (x3:Bool) (x4:List ByteArray):Option (List ByteArray×Bool):=cG Yc ZM (AH CN) ZN ⟨[(0,.str x0),(4,.row 0),(5,.int .i64 x1),(6,.int .i64 x2),(44,.bool x3)],[.rows 9 .str x4]⟩
def JZ (x0:ByteArray) (x1 x2:Int) (x3:Bool) (x4:List ByteArray):Option (List ByteArray×Bool):=cG Yd ZM (AH CN) ZN ⟨[(0,.str x0),(4,.row 0),(5,.int .i64 x1),(6,.int .i64 x2),(33,.bool x3)],[.rows 9 .str x4]⟩
def Wy (x0:List ByteArray):Option (List ByteArray×Bool):=cG Nl (AH CN) (AH CN) kx ⟨[(4,.row 0)],[.rows 9 .str x0]⟩
def DH (x0:ByteArray) (x1 x2:Int) (x3:List ByteArray):Option (List ByteArray×Bool):=Wx ⟨[(0,.str x0),(4,.row 0),(5,.int .i64 x1),(6,.int .i64 x2)],[.rows 9 .str x3]⟩
def Wz (x0:ByteArray) (x1 x2:Int) (x3:Bool) (x4:List ByteArray):Option (List ByteArray×Bool):=(if (decide (x1<x2))=true then (if 0<=x1 then (if x1<=x2 then (if x2<=(x0.size:Int) then (if x4.length+([(x0.extract x1.toNat x2.toNat)]:List ByteArray).length<=68719476736 then (DH x0 (i64.wrap (x2+1)) (i64.wrap (x2+1)) (x4++([(x0.extract x1.toNat x2.toNat)]:List ByteArray))) else none) else none) else none) else none) else (DH x0 (i64.wrap (x2+1)) (i64.wrap (x2+1)) x4))
def ON (x0:ByteArray) (x1 x2:Int) (x3:Bool) (x4:List ByteArray):Option (List ByteArray×Bool):=(if (decide (x2<(x0.size:Int)))=true then (if 0<=x2 then (if x2<(x0.size:Int) then (if (((x0.data.toList.getD x2.toNat 0).toNat:Int) != 32)=true then (DH x0 x1 (i64.wrap (x2+1)) x4) else (JY x0 x1 x2 (((x0.data.toList.getD x2.toNat 0).toNat:Int) != 32) x4)) else none) else none) else (JY x0 x1 x2 false x4))
def W0 (x0:List ByteArray):Option (List ByteArray×Bool):=(if (decide ((x0.length:Int)>10))=true then (some (([]:List ByteArray),false)) else (some (x0,true)))
def Ja (x0:ByteArray) (x1 x2:Int) (x3:List ByteArray):Option (List ByteArray×Bool):=(if (decide (x2<=(x0.size:Int)))=true then (if (decide (x2<(x0.size:Int)))=true then (if 0<=x2 then (if x2<(x0.size:Int) then (if (decide (((x0.data.toList.getD x2.toNat 0).toNat:Int)<32))=false then (if 0<=x2 then (if x2<(x0.size:Int) then (if (decide (((x0.data.toList.getD x2.toNat 0).toNat:Int)>126))=true then (some (([]:List ByteArray),false)) else (JZ x0 x1 x2 (decide (((x0.data.toList.getD x2.toNat 0).toNat:Int)>126)) x3)) else none) else none) else (some (([]:List ByteArray),false))) else none) else none) else (JZ x0 x1 x2 false x3)) else (Wy x3))
def fP (x0:ByteArray):Option (List ByteArray×Bool):=(if (decide ((x0.size:Int)>600))=true then (some (([]:List ByteArray),false)) else (DH x0 0 0 ([]:List ByteArray)))
theorem nA:rq Wz JY:=jS (by kernel_rfl)
theorem W3:rq ON JZ:=jS (by kernel_rfl)
theorem nB:LZ W0 Wy:=jS (by kernel_rfl)
theorem OO:X1 Ja DH:=lS (by kernel_rfl)
theorem v8:LZ fP UB:=cT CN rfl ⟨rfl,rfl⟩ (by kernel_rfl)
def kV:=cG SD (AH Cg) (AH Cg) kx
def Me:=kE 0 [(4,0)] [4] 1 kV kx
def Si:St->Option (RT (BL.outs Cg)):=lG Tt [(4,0)] [0,4,5,6] 1 (AH Cg) Me
def kW:=kB [(4,0)] [0,4,5,6] 1 Si
def Ul:=cG Ts kW (AH Cg) Me
def kX:=kB [(4,0)] [0,4,5,6] 1 Ul
def kY:=kE 1 [(4,0)] [0,4,5,6] 1 Ul Me
def Hg (x0:ByteArray) (x1 x2:Int) (x3:Bool) (x4:List Int):Option (List Int×Bool):=cG Tr kX (AH Cg) kY ⟨[(0,.str x0),(4,.row 0),(5,.int .i64 x1),(6,.int .i64 x2),(25,.bool x3)],[.rows 3 .W x4]⟩
def D8 (x0:ByteArray) (x1 x2:Int) (x3:List Int):Option (List Int×Bool):=Si ⟨[(0,.str x0),(4,.row 0),(5,.int .i64 x1),(6,.int .i64 x2)],[.rows 3 .W x3]⟩
def Sj (x0:ByteArray) (x1 x2:Int) (x3:Bool) (x4:List Int):Option (List Int×Bool):=(if 0<=x1 then (if x1<=x2 then (if x2<=(x0.size:Int) then ((ET (x0.extract x1.toNat x2.toNat)).bind fun y1=>(if (!y1.2)=true then (some (([]:List Int),false)) else (if x4.length+([y1.1]:List Int).length<=68719476736 then (D8 x0 (i64.wrap (x2+1)) (i64.wrap (x2+1)) (x4++([y1.1]:List Int))) else none))) else none) else none) else none)
def Hh (x0:ByteArray) (x1 x2:Int) (x3:List Int):Option (List Int×Bool):=(if (decide (x2<=(x0.size:Int)))=true then (if (decide (x2<(x0.size:Int)))=true then (if 0<=x2 then (if x2<(x0.size:Int) then (if (((x0.data.toList.getD x2.toNat 0).toNat:Int) != 44)=true then (D8 x0 x1 (i64.wrap (x2+1)) x3) else (Hg x0 x1 x2 (((x0.data.toList.getD x2.toNat 0).toNat:Int) != 44) x3)) else none) else none) else (Hg x0 x1 x2 false x3)) else (some (x3,true)))
def ZO (x0:ByteArray):Option (List Int×Bool):=(D8 x0 0 0 ([]:List Int))
theorem ic:rq Sj Hg:=jS (by kernel_rfl)
theorem LG:X1 Hh D8:=lS (by kernel_rfl)
theorem qB:LZ ZO P0:=cT Cg rfl ⟨rfl,rfl⟩ (by kernel_rfl)
def qC:=cG Yg (AH Ei) (AH Ei) kx
def qD:=kE 0 [] [0] 0 qC kx
def nC:St->Option (RT (BL.outs Ei)):=lG Yf [] [0,3] 0 (AH Ei) qD
def Jb (x0:List (List Int)) (x1:Int):Option Bool:=nC ⟨[(0,.lst .S x0),(3,.int .i64 x1)],[]⟩
def OP (x0:List (List Int)) (x1:Int):Option Bool:=(if (decide (x1<(x0.length:Int)))=true then (if 0<=x1 then (if x1<(x0.length:Int) then ((UG (x0.getD x1.toNat ([]:List Int))).bind fun y1=>(if (!y1)=true then (some false) else (Jb x0 (i64.wrap (x1+1))))) else none) else none) else ((Ad (x0.length:Int) 1 9).bind fun y2=>(some y2)))
def fQ (x0:List (List Int)):Option Bool:=(Jb x0 0)
theorem W4:PD OP Jb:=lS (by kernel_rfl)
theorem v_:LZ fQ DK:=cT Ei rfl ⟨rfl,rfl⟩ (by kernel_rfl)
def nD:=cG Tx (AH BE) (AH BE) kx
def OQ:=kE 0 [] [2] 2 nD kx
def Um:St->Option (RT (BL.outs BE)):=lG Tw [(8,1)] [0,2,8,9] 2 (AH BE) OQ
def nE:=kB [(8,1)] [0,2,8,9] 2 Um
def W5:=cG Tv nE (AH BE) OQ
def nF:=kB [(8,1)] [0,2,8,9] 2 W5
def nG:=kE 1 [(8,1)] [0,2,8,9] 2 W5 OQ
def nH:=cG Ty (AH BE) (AH BE) kx
def nI:=cG MK (AH BE) (AH BE) kx
def Un (x0:List ByteArray) (x1:Int) (x2:Bool) (x3:AD) (x4:List ByteArray):Option (AD×Bool):=cG Tu nF (AH BE) nG ⟨[(0,.lst .str x0),(2,.ptr 0 0),(8,.row 1),(9,.int .i64 x1),(79,.bool x2)],[.var (AJ.enc x3),.rows 9 .str x4]⟩
def DW (x0:List ByteArray) (x1:Int) (x2:AD) (x3:List ByteArray):Option (AD×Bool):=Um ⟨[(0,.lst .str x0),(2,.ptr 0 0),(8,.row 1),(9,.int .i64 x1)],[.var (AJ.enc x2),.rows 9 .str x3]⟩
def Mf (x0:List ByteArray) (x1:Bool) (x2:AD):Option (AD×Bool):=cG Vv nH (AH BE) kx ⟨[(0,.lst .str x0),(2,.ptr 0 0),(46,.bool x1)],[.var (AJ.enc x2)]⟩
def If (x0:List ByteArray) (x1:Bool) (x2:AD):Option (AD×Bool):=cG MK (AH BE) (AH BE) kx ⟨[(0,.lst .str x0),(2,.ptr 0 0),(21,.bool x1)],[.var (AJ.enc x2)]⟩
def Mg (x0:List ByteArray) (x1:Bool) (x2:AD):Option (AD×Bool):=cG Vu nI (AH BE) kx ⟨[(0,.lst .str x0),(2,.ptr 0 0),(21,.bool x1)],[.var (AJ.enc x2)]⟩
def Uo (x0:List ByteArray) (x1:Int) (x2:Bool) (x3:AD) (x4:List ByteArray):Option (AD×Bool):=(if 0<=(1:Int) then (if 1<(x0.length:Int) then ((ET (x0.getD (1:Int).toNat U)).bind fun y3=>(if (decide ((i64.wrap (2+x1))<=4))=true then (some (((i64.wrap (2+x1)),1,y3.1,0,U,U),y3.2)) else (some (((i64.wrap (2+x1)),y3.1,0,0,U,U),y3.2)))) else none) else none)
def GA (x0:List ByteArray) (x1:Int) (x2:AD) (x3:List ByteArray):Option (AD×Bool):=(if (decide (x1<(x3.length:Int)))=true then (if 0<=x1 then (if x1<(x3.length:Int) then (if 0<=(0:Int) then (if 0<(x0.length:Int) then (if (!((x3.getD x1.toNat U).toList==(x0.getD (0:Int).toNat U).toList))=true then (DW x0 (i64.wrap (x1+1)) x2 x3) else (if ((x0.length:Int) != 2)=true then (DW x0 (i64.wrap (x1+1)) x2 x3) else (Un x0 x1 ((x0.length:Int) != 2) x2 x3))) else none) else none) else none) else none) else (some ((0,0,0,0,U,U),false)))
def Ig (x0:List ByteArray) (x1:Bool) (x2:AD):Option (AD×Bool):=(if x1=true then (if 0<=(1:Int) then (if 1<(x0.length:Int) then ((ET (x0.getD (1:Int).toNat U)).bind fun y2=>(if 0<=(2:Int) then (if 2<(x0.length:Int) then (some ((1,y2.1,0,2,(x0.getD (2:Int).toNat U),U),y2.2)) else none) else none)) else none) else none) else (DW x0 0 x2 ([(⟨#[100,101,108,105,118,101,114]⟩:ByteArray),(⟨#[100,114,111,112]⟩:ByteArray),(⟨#[99,111,112,121]⟩:ByteArray),(⟨#[97,100,111,112,116]⟩:ByteArray),(⟨#[102,97,108,108]⟩:ByteArray)]:List ByteArray)))
def Mh (x0:List ByteArray) (x1:Bool) (x2:AD):Option (AD×Bool):=(if 0<=(0:Int) then (if 0<(x0.length:Int) then (if ((x0.getD (0:Int).toNat U).toList==(⟨#[103,101,116]⟩:ByteArray).toList)=true then (Mf x0 ((x0.length:Int)==3) x2) else (Mf x0 false x2)) else none) else none)
def Mi (x0:List ByteArray) (x1:Bool) (x2:AD):Option (AD×Bool):=(if x1=true then (if 0<=(1:Int) then (if 1<(x0.length:Int) then ((ET (x0.getD (1:Int).toNat U)).bind fun y1=>(if 0<=(2:Int) then (if 2<(x0.length:Int) then (if 0<=(3:Int) then (if 3<(x0.length:Int) then (some ((1,y1.1,0,1,(x0.getD (2:Int).toNat U),(x0.getD (3:Int).toNat U)),y1.2)) else none) else none) else none) else none)) else none) else none) else (If x0 x1 x2))
def cR (x0:List ByteArray):Option (AD×Bool):=(if 0<=(0:Int) then (if 0<(x0.length:Int) then (if ((x0.getD (0:Int).toNat U).toList==(⟨#[112,117,116]⟩:ByteArray).toList)=true then (Mg x0 ((x0.length:Int)==4) (0,0,0,0,U,U)) else (Mg x0 false (0,0,0,0,U,U))) else none) else none)
theorem kZ:rq Uo Un:=jS (by kernel_rfl)
theorem Ih:X1 GA DW:=lS (by kernel_rfl)
theorem Mj:M3 Ig Mf:=jS (by kernel_rfl)
theorem Up:M3 Mh If:=jS (by kernel_rfl)
theorem Uq:M3 Mi Mg:=jS (by kernel_rfl)
theorem s0:LZ cR Rj:=cT BE rfl ⟨rfl,rfl⟩ (by kernel_rfl)
def OR (x0:Bool) (x1:AD):Option Bool:=cG Yh (AH Hq) (AH Hq) kx ⟨[(1,.ptr 0 0),(17,.bool x0)],[.var (AJ.enc x1)]⟩
def W6 (x0:Bool) (x1:AD):Option Bool:=(if (x1.1 != 1)=true then (if (x1.2.2.2.1==0)=true then (if (x1.2.2.2.2.1.toList==(⟨#[]⟩:ByteArray).toList)=true then (some (x1.2.2.2.2.2.toList==(⟨#[]⟩:ByteArray).toList)) else (some false)) else (some false)) else (if (x1.2.2.2.1==1)=false then (if (x1.2.2.2.1==2)=true then ((Ad (x1.2.2.2.2.1.size:Int) 1 12).bind fun y3=>(if y3=true then (if (decide ((x1.2.2.2.2.2.size:Int)<=20))=true then (if (x1.2.2.2.1==1)=false then (some (x1.2.2.2.2.2.toList==(⟨#[]⟩:ByteArray).toList)) else (some true)) else (some false)) else (some false))) else (some false)) else ((Ad (x1.2.2.2.2.1.size:Int) 1 12).bind fun y4=>(if y4=true then (if (decide ((x1.2.2.2.2.2.size:Int)<=20))=true then (if (x1.2.2.2.1==1)=false then (some (x1.2.2.2.2.2.toList==(⟨#[]⟩:ByteArray).toList)) else (some true)) else (some false)) else (some false)))))
def fR (x0:AD):Option Bool:=((Ad x0.1 1 6).bind fun y1=>(if (!y1)=false then ((Ad x0.2.1 1 6).bind fun y2=>(if (!y2)=false then (if (decide (x0.2.2.1<0))=true then (some false) else (OR (decide (x0.2.2.1<0)) x0)) else (some false))) else (some false)))
theorem nJ:PD W6 OR:=jS (by kernel_rfl)
theorem wA:LZ fR N6:=cT Hq rfl ⟨rfl,rfl⟩ (by kernel_rfl)
def ZP (x0:Int):Option Int:=(if (decide (x0<10))=true then (some (IntKind.u8.wrap (i64.wrap (48+x0)))) else (some (IntKind.u8.wrap (i64.wrap ((i64.wrap (97+x0))-10)))))
theorem qE:LZ ZP P1:=cT Kc rfl ⟨rfl,rfl⟩ (by kernel_rfl)
def nK:=cG Vx (AH D9) (AH D9) kx
def nL:=kE 0 [] [2,4] 8 nK kx
def ka:St->Option (RT (BL.outs D9)):=lG Vw [] [0,2,4,5] 8 (AH D9) nL
def GB (x0:List (List Int)) (x1:Int) (x2:List Y) (x3:List AC) (x4:List AU) (x5:List (List Int)) (x6:List Y) (x7:List AC) (x8:List AU) (x9:List (List Int)):Option (AF×Bool):=ka ⟨[(0,.lst .S x0),(2,.ptr 3 0),(4,.ptr 7 0),(5,.int .i64 x1)],[.rows 49 Z x2,.rows 112 AL x3,.rows 42 A_ x4,.var [.lst .S x5,.row 0,.row 1,.row 2],.rows 49 Z x6,.rows 112 AL x7,.rows 42 A_ x8,.var [.lst .S x9,.row 4,.row 5,.row 6]]⟩
def Mk (x0:List (List Int)) (x1:Int) (x2:List Y) (x3:List AC) (x4:List AU) (x5:List (List Int)) (x6:List Y) (x7:List AC) (x8:List AU) (x9:List (List Int)):Option (AF×Bool):=(if (decide (x1<=6))=true then ((P2 x1 x0).bind fun y3=>(if x6.length+([y3.1]:List Y).length<=68719476736 then (GB x0 (i64.wrap (x1+1)) x2 x3 x4 x5 (x6++([y3.1]:List Y)) x7 x8 x9) else none)) else (some ((x9,x6,x7,x8),true)))
def cS (x0:List (List Int)):Option (AF×Bool):=((DL x0).bind fun y1=>(if (!y1)=true then (some (([],([]:List Y),([]:List AC),([]:List AU)),false)) else ((Kk x0).bind fun y2=>(GB x0 1 ([]:List Y) ([]:List AC) ([]:List AU) ([]:List (List Int)) ([]:List Y) ([]:List AC) ([]:List AU) y2))))
theorem Ur:ADV Mk GB:=lS (by kernel_rfl)
theorem s_:LZ cS Rk:=cT D9 rfl ⟨rfl,rfl⟩ (by kernel_rfl)
def OS (x0:Bool) (x1:AD):Option Bool:=cG Yi (AH Hr) (AH Hr) kx ⟨[(1,.ptr 0 0),(17,.bool x0)],[.var (AJ.enc x1)]⟩
def W7 (x0:Bool) (x1:AD):Option Bool:=(if (x1.1==1)=true then ((N8 x1.2.2.2.1 0 x1.2.2.2.2.1 x1.2.2.2.2.2).bind fun y3=>(some y3)) else (if (x1.2.2.2.1==0)=true then (if (x1.2.2.2.2.1.toList==(⟨#[]⟩:ByteArray).toList)=true then (some (x1.2.2.2.2.2.toList==(⟨#[]⟩:ByteArray).toList)) else (some false)) else (some false)))
def fS (x0:AD):Option Bool:=((Av x0.1 1 6).bind fun y1=>(if (!y1)=false then ((Fn x0.2.1).bind fun y2=>(if (!y2)=false then (if (decide (x0.2.2.1<0))=true then (some false) else (OS (decide (x0.2.2.1<0)) x0)) else (some false))) else (some false)))
theorem nM:PD W7 OS:=jS (by kernel_rfl)
theorem wB:LZ fS N7:=cT Hr rfl ⟨rfl,rfl⟩ (by kernel_rfl)
def Us (x1:AD) (x2:Int) (b0:AF):Option (Bool×AF):=(if (x1.1==1)=true then ((MN x1 x2 b0).bind fun y1=>(some (y1.1,y1.2))) else (if (x1.1==5)=true then ((MO x1 x2 b0).bind fun y2=>(some (y2.1,y2.2))) else (if (x1.1==6)=true then ((CH x1.2.1 b0).bind fun y3=>(if 0<=y3.1 then (if y3.1<(y3.2.2.1.length:Int) then ((Wd (y3.2.2.1.getD y3.1.toNat (0,0,false,false,false,false,([]:List Int),([]:List AB),0,0,0,0,(U,U,0),([]:List Int)))).bind fun y4=>(if 0<=y3.1 then (if y3.1<(y3.2.2.1.length:Int) then (let z5:List Y:=y3.2.2.1.set y3.1.toNat y4; (some (true,(y3.2.1,z5,y3.2.2.2)))) else none) else none)) else none) else none)) else ((KC x1 x2 b0).bind fun y6=>(some (y6.1,y6.2))))))
theorem kb:M3 Us IY:=cT IV rfl ⟨rfl,rfl⟩ (by kernel_rfl)
def jP (x0:Bool):Option Int:=(if x0=true then (some 0) else (some 1))
theorem yL:LZ jP X4:=cT QQ rfl ⟨rfl,rfl⟩ (by kernel_rfl)
def kc:=cG SF (AH Ba) (AH Ba) kx
def kf:=kE 2 [] [2,3] 10 kc kx
def ig:St->Option (RT (BL.outs Ba)):=lG SE [] [2,3,31,32,33] 10 (AH Ba) kf
def kg:=cG K5 (AH Ba) (AH Ba) kx
def kh:=kE 0 [] [1,2,3] 10 kg kx
def ii:St->Option (RT (BL.outs Ba)):=lG Tz [] [1,2,3,16,17,18] 10 (AH Ba) kh
def FF (x0:List AC) (x1 x2:Int) (x3:List (List Int)) (x4:List Y) (x5:List AC) (x6:List AU) (x7:List Y) (x8:List AC) (x9:List AU) (x10:List (List Int)) (x11:List Y) (x12:List AC) (x13:List AU) (x14:List (List Int)):Option AF:=ig ⟨[(2,.ptr 4 0),(3,.ptr 9 0),(31,.lst AL x0),(32,.int .i64 x1),(33,.int .i64 x2)],[.var [.lst .S x3,.lst Z x4,.lst AL x5,.lst A_ x6],.rows 49 Z x7,.rows 112 AL x8,.rows 42 A_ x9,.var [.lst .S x10,.row 1,.row 2,.row 3],.dead,.rows 49 Z x11,.rows 112 AL x12,.rows 42 A_ x13,.var [.lst .S x14,.row 6,.row 7,.row 8]]⟩
def Sk (x0:List (List Int)) (x1:List Y) (x2:List AC) (x3:List AU) (x4:List Y) (x5:List AC) (x6:List AU) (x7:List (List Int)) (x8:List Y) (x9:List AC) (x10:List AU) (x11:List (List Int)):Option AF:=cG K5 (AH Ba) (AH Ba) kx ⟨[(1,.ptr 0 0),(2,.ptr 4 0),(3,.ptr 9 0)],[.var [.lst .S x0,.lst Z x1,.lst AL x2,.lst A_ x3],.rows 49 Z x4,.rows 112 AL x5,.rows 42 A_ x6,.var [.lst .S x7,.row 1,.row 2,.row 3],.dead,.rows 49 Z x8,.rows 112 AL x9,.rows 42 A_ x10,.var [.lst .S x11,.row 6,.row 7,.row 8]]⟩
def FH (x0:List Y) (x1 x2:Int) (x3:List (List Int)) (x4:List Y) (x5:List AC) (x6:List AU) (x7:List Y) (x8:List AC) (x9:List AU) (x10:List (List Int)) (x11:List Y) (x12:List AC) (x13:List AU) (x14:List (List Int)):Option AF:=ii ⟨[(1,.ptr 0 0),(2,.ptr 4 0),(3,.ptr 9 0),(16,.lst Z x0),(17,.int .i64 x1),(18,.int .i64 x2)],[.var [.lst .S x3,.lst Z x4,.lst AL x5,.lst A_ x6],.rows 49 Z x7,.rows 112 AL x8,.rows 42 A_ x9,.var [.lst .S x10,.row 1,.row 2,.row 3],.dead,.rows 49 Z x11,.rows 112 AL x12,.rows 42 A_ x13,.var [.lst .S x14,.row 6,.row 7,.row 8]]⟩
def LH (x0:List AC) (x1 x2:Int) (x3:List (List Int)) (x4:List Y) (x5:List AC) (x6:List AU) (x7:List Y) (x8:List AC) (x9:List AU) (x10:List (List Int)) (x11:List Y) (x12:List AC) (x13:List AU) (x14:List (List Int)):Option AF:=(if (decide (x2<x1))=true then (if 0<=x2 then (if x2<(x0.length:Int) then ((Hw (x0.getD x2.toNat (0,0,0,0,0,([]:List AB)))).bind fun y4=>(if x12.length+([y4]:List AC).length<=68719476736 then (FF x0 x1 (i64.wrap (x2+1)) x3 x4 x5 x6 x7 x8 x9 x10 x11 (x12++([y4]:List AC)) x13 x14) else none)) else none) else none) else (some (x14,x11,x12,x13)))
def Sl (x0:List (List Int)) (x1:List Y) (x2:List AC) (x3:List AU) (x4:List Y) (x5:List AC) (x6:List AU) (x7:List (List Int)) (x8:List Y) (x9:List AC) (x10:List AU) (x11:List (List Int)):Option AF:=(FF x2 (x2.length:Int) 0 x0 x1 x2 x3 x4 x5 x6 x7 x8 x9 x10 x11)
def LI (x0:List Y) (x1 x2:Int) (x3:List (List Int)) (x4:List Y) (x5:List AC) (x6:List AU) (x7:List Y) (x8:List AC) (x9:List AU) (x10:List (List Int)) (x11:List Y) (x12:List AC) (x13:List AU) (x14:List (List Int)):Option AF:=(if (decide (x2<x1))=true then (if 0<=x2 then (if x2<(x0.length:Int) then ((DG (x0.getD x2.toNat (0,0,false,false,false,false,([]:List Int),([]:List AB),0,0,0,0,(U,U,0),([]:List Int)))).bind fun y3=>(if x11.length+([y3]:List Y).length<=68719476736 then (FH x0 x1 (i64.wrap (x2+1)) x3 x4 x5 x6 x7 x8 x9 x10 (x11++([y3]:List Y)) x12 x13 x14) else none)) else none) else none) else (Sk x3 x4 x5 x6 x7 x8 x9 x10 x11 x12 x13 x14))
def ZQ (x0:AF):Option AF:=((Kk x0.1).bind fun y1=>((DV x0.2.2.2).bind fun y2=>(FH x0.2.1 (x0.2.1.length:Int) 0 x0.1 x0.2.1 x0.2.2.1 x0.2.2.2 ([]:List Y) ([]:List AC) ([]:List AU) ([]:List (List Int)) ([]:List Y) ([]:List AC) y2 y1)))
theorem Sm:AHV LH FF:=lS (by kernel_rfl)
theorem ij:AGz Sl Sk:=jS (by kernel_rfl)
theorem Sn:AHV LI FH:=lS (by kernel_rfl)
theorem qF:LZ ZQ Kj:=cT Ba rfl ⟨rfl,rfl⟩ (by kernel_rfl)
def nN:=cG Vz (AH D_) (AH D_) kx
def nO:=kE 0 [] [2,4] 4 nN kx
def ki:St->Option (RT (BL.outs D_)):=lG Vy [] [0,2,4,5] 4 (AH D_) nO
def GC (x0:List (List Int)) (x1:Int) (x2:List Y) (x3:List (List Int)) (x4:List AC) (x5:List AU) (x6:List Y) (x7:List (List Int)):Option (AF×Bool):=ki ⟨[(0,.lst .S x0),(2,.ptr 1 0),(4,.ptr 3 0),(5,.int .i64 x1)],[.rows 49 Z x2,.var [.lst .S x3,.row 0,.lst AL x4,.lst A_ x5],.rows 49 Z x6,.var [.lst .S x7,.row 2,.nil,.nil]]⟩
def Ml (x0:List (List Int)) (x1:Int) (x2:List Y) (x3:List (List Int)) (x4:List AC) (x5:List AU) (x6:List Y) (x7:List (List Int)):Option (AF×Bool):=(if (decide (x1<=6))=true then ((P3 x1 x0).bind fun y3=>(if x6.length+([y3.1]:List Y).length<=68719476736 then (GC x0 (i64.wrap (x1+1)) x2 x3 x4 x5 (x6++([y3.1]:List Y)) x7) else none)) else (some ((x7,x6,[],[]),true)))
def cU (x0:List (List Int)):Option (AF×Bool):=((DK x0).bind fun y1=>(if (!y1)=true then (some (([],([]:List Y),[],[]),false)) else ((HW x0).bind fun y2=>(GC x0 1 ([]:List Y) ([]:List (List Int)) ([]:List AC) ([]:List AU) ([]:List Y) y2))))
theorem Ut:Le8 Ml GC:=lS (by kernel_rfl)
theorem tA:LZ cU L6:=cT D_ rfl ⟨rfl,rfl⟩ (by kernel_rfl)
def OT (x1:Int) (x2:AD) (b0:AF):Option (Int×AF):=(if (x2.1==1)=true then ((Rl x1 x2 b0).bind fun y1=>(some (y1.1,y1.2))) else (if (x2.1==5)=true then ((Rm x1 x2.2.1 b0).bind fun y2=>(some (y2.1,y2.2))) else (if (x2.1==6)=true then (if 0<=(i64.wrap (x2.2.1-1)) then (if (i64.wrap (x2.2.1-1))<(b0.2.1.length:Int) then ((fD (b0.2.1.getD (i64.wrap (x2.2.1-1)).toNat (0,0,false,false,false,false,([]:List Int),([]:List AB),0,0,0,0,(U,U,0),([]:List Int)))).bind fun y3=>((Fu y3 ([]:List AC) ([]:List AN) x1 b0).bind fun y4=>(some (0,y4)))) else none) else none) else ((X5 x1 x2 b0).bind fun y5=>(some (y5.1,y5.2))))))
theorem AAJ:M3 OT TI:=cT TC rfl ⟨rfl,rfl⟩ (by kernel_rfl)
def qG:=cG Yk (AH Ej) (AH Ej) kx
def qH:=kE 0 [] [2,3] 6 qG kx
def nP:St->Option (RT (BL.outs Ej)):=lG Yj [] [1,2,3,4] 6 (AH Ej) qH
def G6 (x0:Int) (x1:List (List Int)) (x2:List Y) (x3:List AC) (x4:List AU) (x5:List Y) (x6:List (List Int)) (x7:List AC) (x8 x9:List AU) (x10:List Y) (x11:List (List Int)) (x12:List AC) (x13:List AU):Option AF:=nP ⟨[(1,.ptr 0 0),(2,.ptr 2 0),(3,.ptr 5 0),(4,.int .i64 x0)],[.var [.lst .S x1,.lst Z x2,.lst AL x3,.lst A_ x4],.rows 49 Z x5,.var [.lst .S x6,.row 1,.lst AL x7,.lst A_ x8],.frz A_ x9,.rows 49 Z x10,.var [.lst .S x11,.row 4,.lst AL x12,.lst A_ x13]]⟩
def OU (x0:Int) (x1:List (List Int)) (x2:List Y) (x3:List AC) (x4:List AU) (x5:List Y) (x6:List (List Int)) (x7:List AC) (x8 x9:List AU) (x10:List Y) (x11:List (List Int)) (x12:List AC) (x13:List AU):Option AF:=(if (decide (x0<(x2.length:Int)))=true then (if 0<=x0 then (if x0<(x2.length:Int) then ((Dv (x2.getD x0.toNat (0,0,false,false,false,false,([]:List Int),([]:List AB),0,0,0,0,(U,U,0),([]:List Int)))).bind fun y3=>(if x10.length+([y3]:List Y).length<=68719476736 then (G6 (i64.wrap (x0+1)) x1 x2 x3 x4 x5 x6 x7 x8 x9 (x10++([y3]:List Y)) x11 x12 x13) else none)) else none) else none) else (some (x11,x10,x12,x13)))
def fT (x0:AF):Option AF:=((HW x0.1).bind fun y1=>((MP x0.2.2.1).bind fun y2=>(if ([]:List AU).length+x0.2.2.2.length<=68719476736 then (G6 0 x0.1 x0.2.1 x0.2.2.1 x0.2.2.2 ([]:List Y) ([]:List (List Int)) ([]:List AC) ([]:List AU) (([]:List AU)++x0.2.2.2) ([]:List Y) y1 y2 (([]:List AU)++x0.2.2.2)) else none)))
theorem W8:AHr OU G6:=lS (by kernel_rfl)
theorem wC:LZ fT UC:=cT Ej rfl ⟨rfl,rfl⟩ (by kernel_rfl)
def JA (x0:List ByteArray) (x1:Bool) (x2:List (List Int)) (x3:List AD):Option (Bool×At):=cG Qp (AH EP) (AH EP) kx ⟨[(0,.ptr 0 0),(5,.lst .str x0),(24,.bool x1)],[.var [.row 1,.row 2],.rows 37 .S x2,.rows 72 AJ x3]⟩
def EH (x0:List ByteArray) (x1:Bool) (x2:List (List Int)) (x3:List AD):Option (Bool×At):=(if 0<=(0:Int) then (if 0<(x0.length:Int) then (if ((x0.getD (0:Int).toNat U).toList==(⟨#[118,105,101,119]⟩:ByteArray).toList)=true then ((MQ x0 (x2,x3)).bind fun y3=>(some (y3.1,y3.2))) else ((UI x0).bind fun y4=>(if x3.length+([y4.1]:List AD).length<=68719476736 then (if y4.2=true then (if (decide ((x2.length:Int)>0))=true then (some ((decide (((x3++([y4.1]:List AD)).length:Int)<=70)),(x2,(x3++([y4.1]:List AD))))) else (some (false,(x2,(x3++([y4.1]:List AD)))))) else (some (false,(x2,(x3++([y4.1]:List AD)))))) else none))) else none) else none)
def Mm (x1:ByteArray) (b0:At):Option (Bool×At):=((UH x1).bind fun y1=>(if (!y1.2)=true then (some (false,b0)) else (if ((y1.1.length:Int)==0)=false then (if 0<=(0:Int) then (if 0<(y1.1.length:Int) then ((K6 (y1.1.getD (0:Int).toNat U) (⟨#[35]⟩:ByteArray)).bind fun y2=>(if y2=true then (some (true,b0)) else (JA y1.1 y2 b0.1 b0.2))) else none) else none) else (some (true,b0)))))
theorem JB:X1 EH JA:=jS (by kernel_rfl)
theorem kj:PD Mm MM:=cT EP rfl ⟨rfl,rfl⟩ (by kernel_rfl)
def qI:=cG Ym (AH Ek) (AH Ek) kx
def qJ:=kE 0 [] [4,5] 6 qI kx
def nQ:St->Option (RT (BL.outs Ek)):=lG Yl [] [0,4,5,6,8,9] 6 (AH Ek) qJ
def Ez (x0 x1:Int) (x2:AM) (x3:List AD) (x4:List (List Int)) (x5:List AD) (x6:List (List Int)) (x7:AF):Option (At×AM):=nQ ⟨[(0,.ptr 0 0),(4,.ptr 2 0),(5,.ptr 4 0),(6,.ptr 5 0),(8,.int .i64 x0),(9,.int .i64 x1)],[.var (Ao.enc x2),.rows 72 AJ x3,.var [.lst .S x4,.row 1],.rows 72 AJ x5,.var [.lst .S x6,.row 3],.var (Af.enc x7)]⟩
def OV (x0 x1:Int) (x2:AM) (x3:List AD) (x4:List (List Int)) (x5:List AD) (x6:List (List Int)) (x7:AF):Option (At×AM):=(if (decide (x1<x0))=true then ((UJ x2 x7).bind fun y3=>((TI x1 y3.1 y3.2.2).bind fun y4=>(if x5.length+([y3.1]:List AD).length<=68719476736 then (Ez x0 (i64.wrap (x1+1)) y3.2.1 x3 x4 (x5++([y3.1]:List AD)) x6 y4.2) else none))) else (some ((x6,x5),x2)))
def Uu (x1:List Int) (b0:AM):Option (At×AM):=((Rn b0).bind fun y1=>((L6 y1.1).bind fun y2=>(if 4=0 then none else (if (decide ((i64.wrap (20+(i64.wrap (Int.tdiv (x1.length:Int) 4))))>69))=true then (Ez 69 0 y1.2 ([]:List AD) ([]:List (List Int)) ([]:List AD) y1.1 y2.1) else (Ez (i64.wrap (20+(i64.wrap (Int.tdiv (x1.length:Int) 4)))) 0 y1.2 ([]:List AD) ([]:List (List Int)) ([]:List AD) y1.1 y2.1)))))
theorem W9:Le8 OV Ez:=lS (by kernel_rfl)
theorem fU:PD Uu UD:=cT Ek rfl ⟨rfl,rfl⟩ (by kernel_rfl)
def fV (x1:Int) (b0:AM):Option (Bool×AM):=((CM x1 b0).bind fun y1=>(some ((y1.1==0),y1.2)))
theorem wD:PD fV Cy:=cT Nm rfl ⟨rfl,rfl⟩ (by kernel_rfl)
def fW (x1:List ByteArray) (b0:AM):Option (ByteArray×AM):=((CM (x1.length:Int) b0).bind fun y1=>(if 0<=y1.1 then (if y1.1<(x1.length:Int) then (some ((x1.getD y1.1.toNat U),y1.2)) else none) else none))
theorem wE:PD fW F3:=cT Nn rfl ⟨rfl,rfl⟩ (by kernel_rfl)
def qK:=cG Pq (AH Dt) (AH Dt) kx
def OW (x0:Bool) (x1:AD) (x2:List ByteArray):Option ByteArray:=cG Pq (AH Dt) (AH Dt) kx ⟨[(1,.ptr 0 0),(3,.row 1),(12,.bool x0)],[.var (AJ.enc x1),.rows 9 .str x2]⟩
def Jc (x0:Bool) (x1:AD) (x2:List ByteArray):Option ByteArray:=cG Yn qK (AH Dt) kx ⟨[(1,.ptr 0 0),(3,.row 1),(12,.bool x0)],[.var (AJ.enc x1),.rows 9 .str x2]⟩
def Jd (x0:Bool) (x1:AD) (x2:List ByteArray):Option ByteArray:=(if (x1.1==1)=true then ((BB x1.2.1).bind fun y2=>(if (⟨#[103,101,116,32]⟩:ByteArray).size+y2.size<=1099511627776 then (if ((⟨#[103,101,116,32]⟩:ByteArray)++y2).size+(⟨#[32]⟩:ByteArray).size<=1099511627776 then (if (((⟨#[103,101,116,32]⟩:ByteArray)++y2)++(⟨#[32]⟩:ByteArray)).size+x1.2.2.2.2.1.size<=1099511627776 then (some ((((⟨#[103,101,116,32]⟩:ByteArray)++y2)++(⟨#[32]⟩:ByteArray))++x1.2.2.2.2.1)) else none) else none) else none)) else (if (decide (x1.1<=4))=true then (if 0<=x1.1 then (if x1.1<(x2.length:Int) then ((BB x1.2.2.1).bind fun y3=>(if (x2.getD x1.1.toNat U).size+y3.size<=1099511627776 then (some ((x2.getD x1.1.toNat U)++y3)) else none)) else none) else none) else (if 0<=x1.1 then (if x1.1<(x2.length:Int) then ((BB x1.2.1).bind fun y4=>(if (x2.getD x1.1.toNat U).size+y4.size<=1099511627776 then (some ((x2.getD x1.1.toNat U)++y4)) else none)) else none) else none)))
def OX (x0:Bool) (x1:AD) (x2:List ByteArray):Option ByteArray:=(if x0=true then ((BB x1.2.1).bind fun y1=>(if (⟨#[112,117,116,32]⟩:ByteArray).size+y1.size<=1099511627776 then (if ((⟨#[112,117,116,32]⟩:ByteArray)++y1).size+(⟨#[32]⟩:ByteArray).size<=1099511627776 then (if (((⟨#[112,117,116,32]⟩:ByteArray)++y1)++(⟨#[32]⟩:ByteArray)).size+x1.2.2.2.2.1.size<=1099511627776 then (if ((((⟨#[112,117,116,32]⟩:ByteArray)++y1)++(⟨#[32]⟩:ByteArray))++x1.2.2.2.2.1).size+(⟨#[32]⟩:ByteArray).size<=1099511627776 then (if (((((⟨#[112,117,116,32]⟩:ByteArray)++y1)++(⟨#[32]⟩:ByteArray))++x1.2.2.2.2.1)++(⟨#[32]⟩:ByteArray)).size+x1.2.2.2.2.2.size<=1099511627776 then (some ((((((⟨#[112,117,116,32]⟩:ByteArray)++y1)++(⟨#[32]⟩:ByteArray))++x1.2.2.2.2.1)++(⟨#[32]⟩:ByteArray))++x1.2.2.2.2.2)) else none) else none) else none) else none) else none)) else (OW x0 x1 x2))
def Uv (x0:AD):Option ByteArray:=(if (x0.1==1)=true then (Jc (x0.2.2.2.1==1) x0 ([(⟨#[]⟩:ByteArray),(⟨#[]⟩:ByteArray),(⟨#[100,101,108,105,118,101,114,32]⟩:ByteArray),(⟨#[100,114,111,112,32]⟩:ByteArray),(⟨#[99,111,112,121,32]⟩:ByteArray),(⟨#[97,100,111,112,116,32]⟩:ByteArray),(⟨#[102,97,108,108,32]⟩:ByteArray)]:List ByteArray)) else (Jc false x0 ([(⟨#[]⟩:ByteArray),(⟨#[]⟩:ByteArray),(⟨#[100,101,108,105,118,101,114,32]⟩:ByteArray),(⟨#[100,114,111,112,32]⟩:ByteArray),(⟨#[99,111,112,121,32]⟩:ByteArray),(⟨#[97,100,111,112,116,32]⟩:ByteArray),(⟨#[102,97,108,108,32]⟩:ByteArray)]:List ByteArray)))
theorem OY:M3 Jd OW:=jS (by kernel_rfl)
theorem W_:M3 OX Jc:=jS (by kernel_rfl)
theorem wF:LZ Uv UE:=cT Dt rfl ⟨rfl,rfl⟩ (by kernel_rfl)
def Rq (x1:Int) (b0:AM):Option (Int×AM):=(if (decide (x1<=0))=true then (some (0,b0)) else (if (decide (x1<=256))=true then ((F4 b0).bind fun y1=>(if x1=0 then none else (some ((Int.tmod y1.1 x1),y1.2)))) else ((F4 b0).bind fun y2=>((F4 y2.2).bind fun y3=>((F4 y3.2).bind fun y4=>((F4 y4.2).bind fun y5=>(if x1=0 then none else (some ((Int.tmod (i64.wrap ((i64.wrap ((i64.wrap ((i64.wrap (y2.1*16777216))+(i64.wrap (y3.1*65536))))+(i64.wrap (y4.1*256))))+y5.1)) x1),y5.2)))))))))
theorem tB:PD Rq CM:=cT Lu rfl ⟨rfl,rfl⟩ (by kernel_rfl)

def qL:=cG Yp (AH El) (AH El) kx
def qM:=kE 0 [(5,0)] [5] 1 qL kx
def nR:St->Option (RT (BL.outs El)):=lG Yo [(5,0)] [0,1,5,6] 1 (AH El) qM
def Je (x0 x1 x2:Int) (x3:List Int):Option ByteArray:=nR ⟨[(0,.int .i64 x0),(1,.int .u8 x1),(5,.row 0),(6,.int .i64 x2)],[.rows 5 (.int .u8) x3]⟩
def OZ (x0 x1 x2:Int) (x3:List Int):Option ByteArray:=(if (decide (x2<x0))=true then (if 0<=x2 then (if x2<(x3.length:Int) then (let z1:List Int:=x3.set x2.toNat x1; (Je x0 x1 (i64.wrap (x2+1)) z1)) else none) else none) else (some (Dp x3)))
def fX (x0 x1:Int):Option ByteArray:=(if 0<=x0 then (if x0<=68719476736 then (Je x0 x1 0 (List.replicate x0.toNat 0)) else none) else none)
theorem XA:X1 OZ Je:=lS (by kernel_rfl)
theorem wG:PD fX UF:=cT El rfl ⟨rfl,rfl⟩ (by kernel_rfl)
def fY:=cG I7 (AH B8) (AH B8) kx
def fZ:=kE 0 [] [0,4] 0 fY kx
def dU:St->Option (RT (BL.outs B8)):=lG Qq [] [0,4,5] 0 (AH B8) fZ
def PQ (x0:ByteArray) (x1:Int):Option (Int×Bool):=cG I7 (AH B8) (AH B8) kx ⟨[(0,.str x0),(4,.int .i64 x1)],[]⟩
def GL (x0:ByteArray) (x1 x2:Int):Option (Int×Bool):=dU ⟨[(0,.str x0),(4,.int .i64 x1),(5,.int .i64 x2)],[]⟩
def PR (x0:ByteArray) (x1:Int):Option (Int×Bool):=(if (decide (x1>1000000000))=false then ((BB x1).bind fun y1=>(if (!(y1.toList==x0.toList))=true then (some (0,false)) else (some (x1,true)))) else (some (0,false)))
def JC (x0:ByteArray) (x1 x2:Int):Option (Int×Bool):=(if (decide (x2<(x0.size:Int)))=true then (if 0<=x2 then (if x2<(x0.size:Int) then (if (decide (((x0.data.toList.getD x2.toNat 0).toNat:Int)<48))=false then (if 0<=x2 then (if x2<(x0.size:Int) then (if (decide (((x0.data.toList.getD x2.toNat 0).toNat:Int)>57))=true then (some (0,false)) else (if 0<=x2 then (if x2<(x0.size:Int) then (GL x0 (i64.wrap ((i64.wrap ((i64.wrap (10*x1))+(i64.wrap ((x0.data.toList.getD x2.toNat 0).toNat:Int))))-48)) (i64.wrap (x2+1))) else none) else none)) else none) else none) else (some (0,false))) else none) else none) else (PQ x0 x1))
def Uw (x0:ByteArray):Option (Int×Bool):=(if (decide ((x0.size:Int)>10))=true then (some (0,false)) else (GL x0 0 0))
theorem dV:PD PR PQ:=jS (by kernel_rfl)
theorem PS:M3 JC GL:=lS (by kernel_rfl)
theorem km:LZ Uw ET:=cT B8 rfl ⟨rfl,rfl⟩ (by kernel_rfl)
def qN:=cG Yr (AH Em) (AH Em) kx
def qO:=kE 0 [] [] 0 qN kx
def nS:St->Option (RT (BL.outs Em)):=lG Yq [] [0,3] 0 (AH Em) qO
def Jf (x0:List Int) (x1:Int):Option Bool:=nS ⟨[(0,.lst .W x0),(3,.int .i64 x1)],[]⟩
def Oa (x0:List Int) (x1:Int):Option Bool:=(if (decide (x1<(x0.length:Int)))=true then (if 0<=x1 then (if x1<(x0.length:Int) then ((Ad (x0.getD x1.toNat 0) 1 6).bind fun y2=>(if (!y2)=true then (some false) else (if 0<=(0:Int) then (if 0<=x1 then (if x1<=(x0.length:Int) then (if 0<=x1 then (if x1<(x0.length:Int) then ((Ec ((x0.take x1.toNat).drop (0:Int).toNat) (x0.getD x1.toNat 0)).bind fun y3=>(if y3=true then (some false) else (Jf x0 (i64.wrap (x1+1))))) else none) else none) else none) else none) else none))) else none) else none) else (some true))
def fa (x0:List Int):Option Bool:=((Ad (x0.length:Int) 1 4).bind fun y1=>(if (!y1)=true then (some false) else (Jf x0 0)))
theorem XB:PD Oa Jf:=lS (by kernel_rfl)
theorem wH:LZ fa UG:=cT Em rfl ⟨rfl,rfl⟩ (by kernel_rfl)
def nT (x0 x1 x2:Int):Option Bool:=(if (decide (x0>=x1))=true then (some (decide (x0<=x2))) else (some false))
theorem AAK:M3 nT Ad:=cT TD rfl ⟨rfl,rfl⟩ (by kernel_rfl)
def qP:=cG V6 (AH CO) (AH CO) kx
def P8:=kE 0 [] [0] 0 qP kx
def XC:St->Option (RT (BL.outs CO)):=lG V5 [] [0,7,8,9] 0 (AH CO) P8
def qQ:=kB [] [0,7,8,9] 0 XC
def ZR:=cG V0 qQ (AH CO) P8
def ZS:=kB [] [0,7,8,9] 0 ZR
def P9:=kE 1 [] [0,7,8,9] 0 ZR P8
def qR:=cG Pr ZS (AH CO) P9
def qS:=kE 2 [] [0,4,7,8,9] 0 qR P9
def nU:St->Option (RT (BL.outs CO)):=lG Ys [] [0,4,7,8,9,13,14,15] 0 (AH CO) qS
def Ob (x0:List (List Int)) (x1:List Int) (x2:List (List Int)) (x3 x4:Int):Option Bool:=cG Pr ZS (AH CO) P9 ⟨[(0,.lst .S x0),(4,.lst .W x1),(7,.lst .S x2),(8,.int .i64 x3),(9,.int .i64 x4)],[]⟩
def Jg (x0:List (List Int)) (x1:List Int) (x2:List (List Int)) (x3 x4:Int) (x5:List Int) (x6 x7:Int):Option Bool:=nU ⟨[(0,.lst .S x0),(4,.lst .W x1),(7,.lst .S x2),(8,.int .i64 x3),(9,.int .i64 x4),(13,.lst .W x5),(14,.int .i64 x6),(15,.int .i64 x7)],[]⟩
def Jh (x0 x1:List (List Int)) (x2 x3:Int):Option Bool:=XC ⟨[(0,.lst .S x0),(7,.lst .S x1),(8,.int .i64 x2),(9,.int .i64 x3)],[]⟩
def XD (x0:List (List Int)) (x1:List Int) (x2:List (List Int)) (x3 x4:Int):Option Bool:=((Av (x1.length:Int) 1 4).bind fun y3=>(if (!y3)=true then (some false) else (Jh x0 x2 x3 (i64.wrap (x4+1)))))
def Oc (x0:List (List Int)) (x1:List Int) (x2:List (List Int)) (x3 x4:Int) (x5:List Int) (x6 x7:Int):Option Bool:=(if (decide (x7<x6))=true then (if 0<=x7 then (if x7<(x5.length:Int) then ((Fn (x5.getD x7.toNat 0)).bind fun y1=>(if (!y1)=false then ((Dw x1 (x5.getD x7.toNat 0)).bind fun y2=>(if (y2 != x7)=true then (some false) else (Jg x0 x1 x2 x3 x4 x5 x6 (i64.wrap (x7+1))))) else (some false))) else none) else none) else (Ob x0 x1 x2 x3 x4))
def Od (x0 x1:List (List Int)) (x2 x3:Int):Option Bool:=(if (decide (x3<x2))=true then (if 0<=x3 then (if x3<(x1.length:Int) then (Jg x0 (x1.getD x3.toNat ([]:List Int)) x1 x2 x3 (x1.getD x3.toNat ([]:List Int)) ((x1.getD x3.toNat ([]:List Int)).length:Int) 0) else none) else none) else ((Av (x0.length:Int) 1 9).bind fun y4=>(some y4)))
def fb (x0:List (List Int)):Option Bool:=(Jh x0 x0 (x0.length:Int) 0)
theorem nV:rq XD Ob:=jS (by kernel_rfl)
theorem XE:Le8 Oc Jg:=lS (by kernel_rfl)
theorem XF:X1 Od Jh:=lS (by kernel_rfl)
theorem wI:LZ fb DL:=cT CO rfl ⟨rfl,rfl⟩ (by kernel_rfl)
def ko:=cG T1 (AH DZ) (AH DZ) kx
def kp:=kE 0 [(3,0)] [3] 1 ko kx
def ik:St->Option (RT (BL.outs DZ)):=lG T0 [(3,0)] [3,6,7,8] 1 (AH DZ) kp
def Hi (x0:List (List Int)) (x1 x2:Int) (x3:List (List Int)):Option (List (List Int)):=ik ⟨[(3,.row 0),(6,.lst .S x0),(7,.int .i64 x1),(8,.int .i64 x2)],[.rows 37 .S x3]⟩
def LJ (x0:List (List Int)) (x1 x2:Int) (x3:List (List Int)):Option (List (List Int)):=(if (decide (x2<x1))=true then (if 0<=x2 then (if x2<(x0.length:Int) then ((B5 (x0.getD x2.toNat ([]:List Int))).bind fun y1=>(if x3.length+([y1]:List (List Int)).length<=68719476736 then (Hi x0 x1 (i64.wrap (x2+1)) (x3++([y1]:List (List Int)))) else none)) else none) else none) else (some x3))
def ZT (x0:List (List Int)):Option (List (List Int)):=(Hi x0 (x0.length:Int) 0 ([]:List (List Int)))
theorem So:X1 LJ Hi:=lS (by kernel_rfl)
theorem qT:LZ ZT Kk:=cT DZ rfl ⟨rfl,rfl⟩ (by kernel_rfl)
def Sp (x0:Int) (x1:List (List Int)) (x2:Bool) (x3:Y):Option (Y×Bool):=cG T2 (AH Fs) (AH Fs) kx ⟨[(0,.int .i64 x0),(1,.lst .S x1),(4,.ptr 0 0),(14,.bool x2)],[.var (Z.enc x3)]⟩
def Sq (x0:Int) (x1:List (List Int)) (x2:Bool) (x3:Y):Option (Y×Bool):=(if 0<=(0:Int) then (if 0<(x1.length:Int) then (if 0<=(0:Int) then (if 0<((x1.getD (0:Int).toNat ([]:List Int)).length:Int) then (if 0<=(0:Int) then (if 0<(x1.length:Int) then ((C8 (x1.getD (0:Int).toNat ([]:List Int)) x0).bind fun y3=>(some ((x0,1,false,y3,(((x1.getD (0:Int).toNat ([]:List Int)).getD (0:Int).toNat 0)==x0),(((x1.getD (0:Int).toNat ([]:List Int)).getD (0:Int).toNat 0)==x0),([]:List Int),([]:List AB),0,0,0,0,(U,U,0),([]:List Int)),true))) else none) else none) else none) else none) else none) else none)
def ZU (x0:Int) (x1:List (List Int)):Option (Y×Bool):=((Fn x0).bind fun y1=>(if (!y1)=false then ((DL x1).bind fun y2=>(if (!y2)=true then (some ((0,0,false,false,false,false,([]:List Int),([]:List AB),0,0,0,0,(U,U,0),([]:List Int)),false)) else (Sp x0 x1 (!y2) (0,0,false,false,false,false,([]:List Int),([]:List AB),0,0,0,0,(U,U,0),([]:List Int))))) else (some ((0,0,false,false,false,false,([]:List Int),([]:List AB),0,0,0,0,(U,U,0),([]:List Int)),false))))
theorem il:X1 Sq Sp:=jS (by kernel_rfl)
theorem qU:PD ZU P2:=cT Fs rfl ⟨rfl,rfl⟩ (by kernel_rfl)
def fc (x0 x1 x2:Int):Option Bool:=(if (decide (x0>=x1))=true then (some (decide (x0<=x2))) else (some false))
theorem wJ:M3 fc Av:=cT No rfl ⟨rfl,rfl⟩ (by kernel_rfl)
def jQ (x0:Int):Option Bool:=((Av x0 1 6).bind fun y1=>(some y1))
theorem yM:LZ jQ Fn:=cT QR rfl ⟨rfl,rfl⟩ (by kernel_rfl)
def L8 (x0:Int) (x1:ByteArray) (x2:Bool):Option Bool:=cG eP (AH Ke) (AH Ke) kx ⟨[(0,.int .i64 x0),(3,.str x1),(26,.bool x2)],[]⟩
def Rr (x0:Int) (x1:ByteArray) (x2:Bool):Option Bool:=(if (x0==1)=false then (some (x1.toList==(⟨#[]⟩:ByteArray).toList)) else (some true))
def an (x0 x1:Int) (x2 x3:ByteArray):Option Bool:=((Av x0 1 2).bind fun y1=>(if (!y1)=false then ((Av x1 0 1000).bind fun y2=>(if (!y2)=false then ((TJ x2).bind fun y3=>(if (!y3)=false then (if (decide ((x3.size:Int)>20))=true then (some false) else (L8 x0 x3 (decide ((x3.size:Int)>20)))) else (some false))) else (some false))) else (some false)))
theorem cV:M3 Rr L8:=jS (by kernel_rfl)
theorem nW:X1 an N8:=cT Ke rfl ⟨rfl,rfl⟩ (by kernel_rfl)
def Ux (x1:AD) (x2:Int) (b0:AF):Option (Bool×AF):=(if b0.2.2.2.length+([(x1.2.2.2.1,x1.2.2.2.2.1,x1.2.2.2.2.2,x2,(-1:Int),0,0,0,U)]:List AU).length<=68719476736 then ((CH x1.2.1 (b0.1,b0.2.1,b0.2.2.1,(b0.2.2.2++([(x1.2.2.2.1,x1.2.2.2.2.1,x1.2.2.2.2.2,x2,(-1:Int),0,0,0,U)]:List AU)))).bind fun y1=>(if 0<=y1.1 then (if y1.1<(y1.2.2.1.length:Int) then ((TK (y1.2.2.1.getD y1.1.toNat (0,0,false,false,false,false,([]:List Int),([]:List AB),0,0,0,0,(U,U,0),([]:List Int))) y1.2.1 x1.2.2.2.1 (b0.2.2.2.length:Int) x1.2.2.2.2.1 x1.2.2.2.2.2).bind fun y2=>(if (!y2.2.2.2)=true then (some (false,y1.2)) else (if 0<=y1.1 then (if y1.1<(y1.2.2.1.length:Int) then (let z3:List Y:=y1.2.2.1.set y1.1.toNat y2.1; ((Gw y2.2.1 y2.2.2.1 x2 (y1.2.1,z3,y1.2.2.2)).bind fun y4=>(some (true,y4)))) else none) else none))) else none) else none)) else none)
theorem kq:M3 Ux MN:=cT IW rfl ⟨rfl,rfl⟩ (by kernel_rfl)
def ff:=cG PG (AH Cu) (AH Cu) kx
def fg:=kE 0 [] [] 5 ff kx
def dW:St->Option (RT (BL.outs Cu)):=lG Qr [] [0,2,4,7,8] 5 (AH Cu) fg
def EI (x0 x1 x2:Int) (x3:List (List Int)) (x4:List Y) (x5:List AC) (x6:List AU) (x7:AD):Option (Bool×AF):=dW ⟨[(0,.ptr 0 0),(2,.int .i64 x0),(4,.ptr 4 0),(7,.int .i64 x1),(8,.int .i64 x2)],[.var [.lst .S x3,.row 1,.row 2,.row 3],.rows 49 Z x4,.rows 112 AL x5,.rows 42 A_ x6,.var (AJ.enc x7)]⟩
def GM (x0 x1 x2:Int) (x3:List (List Int)) (x4:List Y) (x5:List AC) (x6:List AU) (x7:AD):Option (Bool×AF):=(if (decide (x2<=(x3.length:Int)))=true then (if 0<=(i64.wrap (x2-1)) then (if (i64.wrap (x2-1))<(x3.length:Int) then (if 0<=(0:Int) then (if 0<((x3.getD (i64.wrap (x2-1)).toNat ([]:List Int)).length:Int) then (if (((x3.getD (i64.wrap (x2-1)).toNat ([]:List Int)).getD (0:Int).toNat 0) != x7.2.1)=true then (EI x0 x1 (i64.wrap (x2+1)) x3 x4 x5 x6 x7) else (if 0<=x1 then (if x1<(x4.length:Int) then ((TL (x4.getD x1.toNat (0,0,false,false,false,false,([]:List Int),([]:List AB),0,0,0,0,(U,U,0),([]:List Int))) x3 x2).bind fun y2=>(if y2.2.2=true then (if 0<=x1 then (if x1<(x4.length:Int) then (let z3:List Y:=x4.set x1.toNat y2.1; ((Gw y2.2.1 ([]) x0 (x3,z3,x5,x6)).bind fun y4=>(some (y2.2.2,y4)))) else none) else none) else (some (y2.2.2,(x3,x4,x5,x6))))) else none) else none)) else none) else none) else none) else none) else (some (false,(x3,x4,x5,x6))))
def Uy (x1:AD) (x2:Int) (b0:AF):Option (Bool×AF):=((CH x1.2.1 b0).bind fun y1=>(if 0<=y1.1 then (if y1.1<(y1.2.2.1.length:Int) then (EI x2 y1.1 (i64.wrap ((((y1.2.2.1.getD y1.1.toNat (0,0,false,false,false,false,([]:List Int),([]:List AB),0,0,0,0,(U,U,0),([]:List Int))).2).1)+1)) y1.2.1 y1.2.2.1 y1.2.2.2.1 y1.2.2.2.2 x1) else none) else none))
theorem JD:Le8 GM EI:=lS (by kernel_rfl)
theorem kt:M3 Uy MO:=cT Cu rfl ⟨rfl,rfl⟩ (by kernel_rfl)
def Sr (x1:Int) (b0:AF):Option (Int×AF):=((CY b0.2.1 x1).bind fun y1=>(some (y1,b0)))
theorem im:PD Sr CH:=cT HU rfl ⟨rfl,rfl⟩ (by kernel_rfl)
def ABK (x0:Y):Option Y:=(some (x0.1,x0.2.1,true,false,false,false,([]:List Int),([]:List AB),0,0,0,0,(U,U,0),([]:List Int)))
theorem ABL:LZ ABK Wd:=cT V7 rfl ⟨rfl,rfl⟩ (by kernel_rfl)
def RG (x1:AD) (x2:Int) (b0:AF):Option (Bool×AF):=(if ((b0.2.2.1.length:Int)==0)=true then (some (false,b0)) else (if (b0.2.2.1.length:Int)=0 then none else (if (x1.1==2)=true then ((KD (Int.tmod x1.2.2.1 (b0.2.2.1.length:Int)) x2 b0).bind fun y1=>(some (true,y1))) else (if (x1.1==3)=true then ((Bw b0.2.2.1 (Int.tmod x1.2.2.1 (b0.2.2.1.length:Int)) (i64.wrap ((Int.tmod x1.2.2.1 (b0.2.2.1.length:Int))+1))).bind fun y2=>(some (true,(b0.1,b0.2.1,y2,b0.2.2.2)))) else (if (x1.1==4)=true then (if 0<=(Int.tmod x1.2.2.1 (b0.2.2.1.length:Int)) then (if (Int.tmod x1.2.2.1 (b0.2.2.1.length:Int))<(b0.2.2.1.length:Int) then ((Hw (b0.2.2.1.getD ((Int.tmod x1.2.2.1 (b0.2.2.1.length:Int)).toNat) (0,0,0,0,0,([]:List AB)))).bind fun y3=>(if b0.2.2.1.length+([y3]:List AC).length<=68719476736 then (some (true,(b0.1,b0.2.1,(b0.2.2.1++([y3]:List AC)),b0.2.2.2))) else none)) else none) else none) else (some (true,b0)))))))
theorem fh:M3 RG KC:=cT Gq rfl ⟨rfl,rfl⟩ (by kernel_rfl)
def XG (x0:Y):Option Y:=((B5 x0.2.2.2.2.2.2.1).bind fun y1=>((Ap x0.2.2.2.2.2.2.2.1).bind fun y2=>((B5 x0.2.2.2.2.2.2.2.2.2.2.2.2.2).bind fun y3=>(some (x0.1,x0.2.1,x0.2.2.1,x0.2.2.2.1,x0.2.2.2.2.1,x0.2.2.2.2.2.1,y1,y2,x0.2.2.2.2.2.2.2.2.1,x0.2.2.2.2.2.2.2.2.2.1,x0.2.2.2.2.2.2.2.2.2.2.1,x0.2.2.2.2.2.2.2.2.2.2.2.1,x0.2.2.2.2.2.2.2.2.2.2.2.2.1,y3)))))
theorem nX:LZ XG DG:=cT JL rfl ⟨rfl,rfl⟩ (by kernel_rfl)
def fi (x0:AC):Option AC:=((Ap x0.2.2.2.2.2).bind fun y1=>(some (x0.1,x0.2.1,x0.2.2.1,x0.2.2.2.1,x0.2.2.2.2.1,y1)))
theorem wK:LZ fi Hw:=cT Np rfl ⟨rfl,rfl⟩ (by kernel_rfl)
def dX:=cG PI (AH Ci) (AH Ci) kx
def dY:=kE 0 [(3,0)] [3] 1 dX kx
def aq:St->Option (RT (BL.outs Ci)):=lG PH [(3,0)] [0,3,4] 1 (AH Ci) dY
def FY (x0:List (List Int)) (x1:Int) (x2:List (List Int)):Option (List (List Int)):=aq ⟨[(0,.lst .S x0),(3,.row 0),(4,.int .i64 x1)],[.rows 37 .S x2]⟩
def Ii (x0:List (List Int)) (x1:Int) (x2:List (List Int)):Option (List (List Int)):=(if (decide (x1<(x0.length:Int)))=true then (if 0<=x1 then (if x1<(x0.length:Int) then (if ([]:List Int).length+(x0.getD x1.toNat ([]:List Int)).length<=68719476736 then (if x2.length+([(([]:List Int)++(x0.getD x1.toNat ([]:List Int)))]:List (List Int)).length<=68719476736 then (FY x0 (i64.wrap (x1+1)) (x2++([(([]:List Int)++(x0.getD x1.toNat ([]:List Int)))]:List (List Int)))) else none) else none) else none) else none) else (some x2))
def Ss (x0:List (List Int)):Option (List (List Int)):=(FY x0 0 ([]:List (List Int)))
theorem Oe:M3 Ii FY:=lS (by kernel_rfl)
theorem ip:LZ Ss HW:=cT Ci rfl ⟨rfl,rfl⟩ (by kernel_rfl)
def Su (x0:Int) (x1:List (List Int)) (x2:Bool) (x3:Y):Option (Y×Bool):=cG T3 (AH Ft) (AH Ft) kx ⟨[(0,.int .i64 x0),(1,.lst .S x1),(4,.ptr 0 0),(14,.bool x2)],[.var (Z.enc x3)]⟩
def Sv (x0:Int) (x1:List (List Int)) (x2:Bool) (x3:Y):Option (Y×Bool):=(if 0<=(0:Int) then (if 0<(x1.length:Int) then ((Ec (x1.getD (0:Int).toNat ([]:List Int)) x0).bind fun y3=>(if 0<=(0:Int) then (if 0<(x1.length:Int) then (if 0<=(0:Int) then (if 0<((x1.getD (0:Int).toNat ([]:List Int)).length:Int) then (some ((x0,1,false,y3,(((x1.getD (0:Int).toNat ([]:List Int)).getD (0:Int).toNat 0)==x0),(((x1.getD (0:Int).toNat ([]:List Int)).getD (0:Int).toNat 0)==x0),([]:List Int),([]:List AB),0,0,0,0,(U,U,0),([]:List Int)),true)) else none) else none) else none) else none)) else none) else none)
def ZV (x0:Int) (x1:List (List Int)):Option (Y×Bool):=((DK x1).bind fun y1=>(if (!y1)=false then ((Ad x0 1 6).bind fun y2=>(if (!y2)=true then (some ((0,0,false,false,false,false,([]:List Int),([]:List AB),0,0,0,0,(U,U,0),([]:List Int)),false)) else (Su x0 x1 (!y2) (0,0,false,false,false,false,([]:List Int),([]:List AB),0,0,0,0,(U,U,0),([]:List Int))))) else (some ((0,0,false,false,false,false,([]:List Int),([]:List AB),0,0,0,0,(U,U,0),([]:List Int)),false))))
theorem iq:X1 Sv Su:=jS (by kernel_rfl)
theorem qV:PD ZV P3:=cT Ft rfl ⟨rfl,rfl⟩ (by kernel_rfl)
def cW (x1:Int) (x2:AD) (b0:AF):Option (Int×AF):=(if ([]:List AU).length+b0.2.2.2.length<=68719476736 then (if (([]:List AU)++b0.2.2.2).length+([(x2.2.2.2.1,x2.2.2.2.2.1,x2.2.2.2.2.2,x1,(-1:Int),0,0,0,U)]:List AU).length<=68719476736 then (if 0<=(i64.wrap (x2.2.1-1)) then (if (i64.wrap (x2.2.1-1))<(b0.2.1.length:Int) then ((ag (b0.2.1.getD (i64.wrap (x2.2.1-1)).toNat (0,0,false,false,false,false,([]:List Int),([]:List AB),0,0,0,0,(U,U,0),([]:List Int))) b0.1 x2.2.2.2.1 (i64.wrap ((((([]:List AU)++b0.2.2.2)++([(x2.2.2.2.1,x2.2.2.2.2.1,x2.2.2.2.2.2,x1,(-1:Int),0,0,0,U)]:List AU)).length:Int)-1)) x2.2.2.2.2.1 x2.2.2.2.2.2).bind fun y1=>(if (!y1.2.2.2)=true then (some (1,(b0.1,b0.2.1,b0.2.2.1,((([]:List AU)++b0.2.2.2)++([(x2.2.2.2.1,x2.2.2.2.2.1,x2.2.2.2.2.2,x1,(-1:Int),0,0,0,U)]:List AU))))) else ((Fu y1.1 y1.2.1 y1.2.2.1 x1 (b0.1,b0.2.1,b0.2.2.1,((([]:List AU)++b0.2.2.2)++([(x2.2.2.2.1,x2.2.2.2.2.1,x2.2.2.2.2.2,x1,(-1:Int),0,0,0,U)]:List AU)))).bind fun y2=>(some (0,y2))))) else none) else none) else none) else none)
theorem tC:M3 cW Rl:=cT Lv rfl ⟨rfl,rfl⟩ (by kernel_rfl)
def nY:=cG T4 (AH EA) (AH EA) kx
def nZ:=kE 0 [] [] 2 nY kx
def ku:St->Option (RT (BL.outs EA)):=lG V8 [] [0,1,2,7,8] 2 (AH EA) nZ
def Ij (x0 x1 x2:Int) (x3:AF) (x4:Y):Option (Int×AF):=ku ⟨[(0,.ptr 0 0),(1,.int .i64 x0),(2,.int .i64 x1),(7,.ptr 1 0),(8,.int .i64 x2)],[.var (Af.enc x3),.var (Z.enc x4)]⟩
def Ik (x0 x1 x2:Int) (x3:AF) (x4:Y):Option (Int×AF):=(if (decide (x2<=(x3.1.length:Int)))=true then (if 0<=(i64.wrap (x2-1)) then (if (i64.wrap (x2-1))<(x3.1.length:Int) then (if 0<=(0:Int) then (if 0<((x3.1.getD (i64.wrap (x2-1)).toNat ([]:List Int)).length:Int) then (if (((x3.1.getD (i64.wrap (x2-1)).toNat ([]:List Int)).getD (0:Int).toNat 0) != x1)=true then (Ij x0 x1 (i64.wrap (x2+1)) x3 x4) else ((ah x4 x3.1 x2).bind fun y1=>(if (!y1.2.2)=true then (some (1,x3)) else ((Fu y1.1 y1.2.1 ([]:List AN) x0 x3).bind fun y2=>(some (0,y2)))))) else none) else none) else none) else none) else (some (1,x3)))
def Rs (x1 x2:Int) (b0:AF):Option (Int×AF):=(if 0<=(i64.wrap (x2-1)) then (if (i64.wrap (x2-1))<(b0.2.1.length:Int) then (Ij x1 x2 (i64.wrap ((((b0.2.1.getD (i64.wrap (x2-1)).toNat (0,0,false,false,false,false,([]:List Int),([]:List AB),0,0,0,0,(U,U,0),([]:List Int))).2).1)+1)) b0 (b0.2.1.getD (i64.wrap (x2-1)).toNat (0,0,false,false,false,false,([]:List Int),([]:List AB),0,0,0,0,(U,U,0),([]:List Int)))) else none) else none)
theorem Mn:rq Ik Ij:=lS (by kernel_rfl)
theorem cX:M3 Rs Rm:=cT EA rfl ⟨rfl,rfl⟩ (by kernel_rfl)
def Mo:=kE 0 [] [] 4 (AH C4) kx
def Sw:St->Option (RT (BL.outs C4)):=lG SI [] [0,3,4,11] 4 (AH C4) Mo
def kv:=kB [] [0,3,4,11] 4 Sw
def Uz:=cG SH kv (AH C4) Mo
def kw:=kB [] [0,3,4,11] 4 Uz
def ky:=kE 1 [] [0,3,4,11] 4 Uz Mo
def Sx (x0:List AN) (x1 x2:Int) (x3:Bool) (x4:AF) (x5:Y) (x6:List Y) (x7:List AC) (x8:AN):Option AF:=cG SG kw (AH C4) ky ⟨[(0,.ptr 0 0),(3,.lst BG x0),(4,.int .i64 x1),(11,.int .i64 x2),(12,.ptr 4 0),(71,.bool x3)],[.var (Af.enc x4),.var (Z.enc x5),.frz Z x6,.frz AL x7,.var (BG.enc x8)]⟩
def C_ (x0:List AN) (x1 x2:Int) (x3:AF) (x4:Y) (x5:List Y) (x6:List AC):Option AF:=Sw ⟨[(0,.ptr 0 0),(3,.lst BG x0),(4,.int .i64 x1),(11,.int .i64 x2)],[.var (Af.enc x3),.var (Z.enc x4),.frz Z x5,.frz AL x6]⟩
def Sy (x0:List AN) (x1 x2:Int) (x3:Bool) (x4:AF) (x5:Y) (x6:List Y) (x7:List AC) (x8:AN):Option AF:=(if ([]:List AU).length+x4.2.2.2.length<=68719476736 then (if 0<=x8.1 then (if x8.1<((([]:List AU)++x4.2.2.2).length:Int) then (let z2:List AU:=(([]:List AU)++x4.2.2.2).set x8.1.toNat (((([]:List AU)++x4.2.2.2).getD x8.1.toNat (0,U,U,0,0,0,0,0,U)).1,(((([]:List AU)++x4.2.2.2).getD x8.1.toNat (0,U,U,0,0,0,0,0,U)).2).1,((((([]:List AU)++x4.2.2.2).getD x8.1.toNat (0,U,U,0,0,0,0,0,U)).2).2).1,(((((([]:List AU)++x4.2.2.2).getD x8.1.toNat (0,U,U,0,0,0,0,0,U)).2).2).2).1,x1,((((((([]:List AU)++x4.2.2.2).getD x8.1.toNat (0,U,U,0,0,0,0,0,U)).2).2).2).2).2); (let z3:List AU:=z2.set x8.1.toNat ((z2.getD x8.1.toNat (0,U,U,0,0,0,0,0,U)).1,((z2.getD x8.1.toNat (0,U,U,0,0,0,0,0,U)).2).1,(((z2.getD x8.1.toNat (0,U,U,0,0,0,0,0,U)).2).2).1,((((z2.getD x8.1.toNat (0,U,U,0,0,0,0,0,U)).2).2).2).1,(((((z2.getD x8.1.toNat (0,U,U,0,0,0,0,0,U)).2).2).2).2).1,x8.2.2.2.2.2,((((((z2.getD x8.1.toNat (0,U,U,0,0,0,0,0,U)).2).2).2).2).2).2); (let z4:List AU:=z3.set x8.1.toNat ((z3.getD x8.1.toNat (0,U,U,0,0,0,0,0,U)).1,((z3.getD x8.1.toNat (0,U,U,0,0,0,0,0,U)).2).1,(((z3.getD x8.1.toNat (0,U,U,0,0,0,0,0,U)).2).2).1,((((z3.getD x8.1.toNat (0,U,U,0,0,0,0,0,U)).2).2).2).1,(((((z3.getD x8.1.toNat (0,U,U,0,0,0,0,0,U)).2).2).2).2).1,((((((z3.getD x8.1.toNat (0,U,U,0,0,0,0,0,U)).2).2).2).2).2).1,x8.2.1,(((((((z3.getD x8.1.toNat (0,U,U,0,0,0,0,0,U)).2).2).2).2).2).2).2); (let z5:List AU:=z4.set x8.1.toNat ((z4.getD x8.1.toNat (0,U,U,0,0,0,0,0,U)).1,((z4.getD x8.1.toNat (0,U,U,0,0,0,0,0,U)).2).1,(((z4.getD x8.1.toNat (0,U,U,0,0,0,0,0,U)).2).2).1,((((z4.getD x8.1.toNat (0,U,U,0,0,0,0,0,U)).2).2).2).1,(((((z4.getD x8.1.toNat (0,U,U,0,0,0,0,0,U)).2).2).2).2).1,((((((z4.getD x8.1.toNat (0,U,U,0,0,0,0,0,U)).2).2).2).2).2).1,(((((((z4.getD x8.1.toNat (0,U,U,0,0,0,0,0,U)).2).2).2).2).2).2).1,x8.2.2.1,((((((((z4.getD x8.1.toNat (0,U,U,0,0,0,0,0,U)).2).2).2).2).2).2).2).2); (if (((z5.getD x8.1.toNat (0,U,U,0,0,0,0,0,U)).1)==2)=true then (let z6:List AU:=z5.set x8.1.toNat ((z5.getD x8.1.toNat (0,U,U,0,0,0,0,0,U)).1,((z5.getD x8.1.toNat (0,U,U,0,0,0,0,0,U)).2).1,(((z5.getD x8.1.toNat (0,U,U,0,0,0,0,0,U)).2).2).1,((((z5.getD x8.1.toNat (0,U,U,0,0,0,0,0,U)).2).2).2).1,(((((z5.getD x8.1.toNat (0,U,U,0,0,0,0,0,U)).2).2).2).2).1,((((((z5.getD x8.1.toNat (0,U,U,0,0,0,0,0,U)).2).2).2).2).2).1,(((((((z5.getD x8.1.toNat (0,U,U,0,0,0,0,0,U)).2).2).2).2).2).2).1,((((((((z5.getD x8.1.toNat (0,U,U,0,0,0,0,0,U)).2).2).2).2).2).2).2).1,x8.2.2.2.2.1); (C_ x0 x1 (i64.wrap (x2+1)) (x4.1,x4.2.1,x4.2.2.1,z6) x5 x6 x7)) else (C_ x0 x1 (i64.wrap (x2+1)) (x4.1,x4.2.1,x4.2.2.1,z5) x5 x6 x7)))))) else none) else none) else none)
def LK (x0:List AN) (x1 x2:Int) (x3:AF) (x4:Y) (x5:List Y) (x6:List AC):Option AF:=(if (decide (x2<(x0.length:Int)))=true then (if 0<=x2 then (if x2<(x0.length:Int) then (if (decide (((x0.getD x2.toNat (0,0,0,U,U,0)).1)>=(x3.2.2.2.length:Int)))=true then (C_ x0 x1 (i64.wrap (x2+1)) x3 x4 x5 x6) else (if 0<=((x0.getD x2.toNat (0,0,0,U,U,0)).1) then (if ((x0.getD x2.toNat (0,0,0,U,U,0)).1)<(x3.2.2.2.length:Int) then (if (decide (((((((x3.2.2.2.getD ((x0.getD x2.toNat (0,0,0,U,U,0)).1).toNat (0,U,U,0,0,0,0,0,U)).2).2).2).2).1)>=0))=true then (C_ x0 x1 (i64.wrap (x2+1)) x3 x4 x5 x6) else (Sx x0 x1 x2 (decide (((((((x3.2.2.2.getD ((x0.getD x2.toNat (0,0,0,U,U,0)).1).toNat (0,U,U,0,0,0,0,0,U)).2).2).2).2).1)>=0)) x3 x4 x5 x6 (x0.getD x2.toNat (0,0,0,U,U,0)))) else none) else none)) else none) else none) else (some x3))
def ZW (x1:Y) (x2:List AC) (x3:List AN) (x4:Int) (b0:AF):Option AF:=(if ([]:List Y).length+b0.2.1.length<=68719476736 then (if 0<=(i64.wrap (x1.1-1)) then (if (i64.wrap (x1.1-1))<((([]:List Y)++b0.2.1).length:Int) then (let z1:List Y:=(([]:List Y)++b0.2.1).set ((i64.wrap (x1.1-1)).toNat) x1; (if ([]:List AC).length+b0.2.2.1.length<=68719476736 then (if (([]:List AC)++b0.2.2.1).length+x2.length<=68719476736 then (C_ x3 x4 0 (b0.1,z1,((([]:List AC)++b0.2.2.1)++x2),b0.2.2.2) x1 z1 ((([]:List AC)++b0.2.2.1)++x2)) else none) else none)) else none) else none) else none)
theorem ir:Le9 Sy Sx:=jS (by kernel_rfl)
theorem Sz:Le7 LK C_:=lS (by kernel_rfl)
theorem qW:rq ZW Fu:=cT C4 rfl ⟨rfl,rfl⟩ (by kernel_rfl)
def ABM (x0:Y):Option Y:=(some (x0.1,x0.2.1,true,false,false,false,([]:List Int),([]:List AB),0,0,0,0,(U,U,0),([]:List Int)))
theorem ABN:LZ ABM fD:=cT V9 rfl ⟨rfl,rfl⟩ (by kernel_rfl)
def X9 (x1:Int) (x2:AD) (b0:AF):Option (Int×AF):=(if ((b0.2.2.1.length:Int)==0)=true then (some (1,b0)) else (if (b0.2.2.1.length:Int)=0 then none else (if 0<=(Int.tmod x2.2.2.1 (b0.2.2.1.length:Int)) then (if (Int.tmod x2.2.2.1 (b0.2.2.1.length:Int))<(b0.2.2.1.length:Int) then (if (x2.1==4)=true then (if ([]:List AC).length+b0.2.2.1.length<=68719476736 then (if (([]:List AC)++b0.2.2.1).length+([b0.2.2.1.getD (Int.tmod x2.2.2.1 (b0.2.2.1.length:Int)).toNat (0,0,0,0,0,([]:List AB))]:List AC).length<=68719476736 then (some (0,(b0.1,b0.2.1,((([]:List AC)++b0.2.2.1)++([b0.2.2.1.getD (Int.tmod x2.2.2.1 (b0.2.2.1.length:Int)).toNat (0,0,0,0,0,([]:List AB))]:List AC)),b0.2.2.2))) else none) else none) else (if 0<=(0:Int) then (if 0<=(Int.tmod x2.2.2.1 (b0.2.2.1.length:Int)) then (if (Int.tmod x2.2.2.1 (b0.2.2.1.length:Int))<=(b0.2.2.1.length:Int) then (if 0<=(i64.wrap ((Int.tmod x2.2.2.1 (b0.2.2.1.length:Int))+1)) then (if (i64.wrap ((Int.tmod x2.2.2.1 (b0.2.2.1.length:Int))+1))<=(b0.2.2.1.length:Int) then (if (b0.2.2.1.length:Int)<=(b0.2.2.1.length:Int) then (if ([]:List AC).length+((b0.2.2.1.take (Int.tmod x2.2.2.1 (b0.2.2.1.length:Int)).toNat).drop (0:Int).toNat).length<=68719476736 then (if (([]:List AC)++((b0.2.2.1.take (Int.tmod x2.2.2.1 (b0.2.2.1.length:Int)).toNat).drop (0:Int).toNat)).length+((b0.2.2.1.take (b0.2.2.1.length:Int).toNat).drop (i64.wrap ((Int.tmod x2.2.2.1 (b0.2.2.1.length:Int))+1)).toNat).length<=68719476736 then (if (x2.1==3)=true then (some (0,(b0.1,b0.2.1,((([]:List AC)++((b0.2.2.1.take (Int.tmod x2.2.2.1 (b0.2.2.1.length:Int)).toNat).drop (0:Int).toNat))++((b0.2.2.1.take (b0.2.2.1.length:Int).toNat).drop (i64.wrap ((Int.tmod x2.2.2.1 (b0.2.2.1.length:Int))+1)).toNat)),b0.2.2.2))) else (if 0<=(i64.wrap (((((b0.2.2.1.getD (Int.tmod x2.2.2.1 (b0.2.2.1.length:Int)).toNat (0,0,0,0,0,([]:List AB))).2).2).1)-1)) then (if (i64.wrap (((((b0.2.2.1.getD (Int.tmod x2.2.2.1 (b0.2.2.1.length:Int)).toNat (0,0,0,0,0,([]:List AB))).2).2).1)-1))<(b0.2.1.length:Int) then ((UK (b0.2.1.getD (i64.wrap (((((b0.2.2.1.getD (Int.tmod x2.2.2.1 (b0.2.2.1.length:Int)).toNat (0,0,0,0,0,([]:List AB))).2).2).1)-1)).toNat (0,0,false,false,false,false,([]:List Int),([]:List AB),0,0,0,0,(U,U,0),([]:List Int))) b0.1 (b0.2.2.1.getD (Int.tmod x2.2.2.1 (b0.2.2.1.length:Int)).toNat (0,0,0,0,0,([]:List AB)))).bind fun y1=>((Fu y1.1 y1.2.1 y1.2.2 x1 (b0.1,b0.2.1,((([]:List AC)++((b0.2.2.1.take (Int.tmod x2.2.2.1 (b0.2.2.1.length:Int)).toNat).drop (0:Int).toNat))++((b0.2.2.1.take (b0.2.2.1.length:Int).toNat).drop (i64.wrap ((Int.tmod x2.2.2.1 (b0.2.2.1.length:Int))+1)).toNat)),b0.2.2.2)).bind fun y2=>(some (0,y2)))) else none) else none)) else none) else none) else none) else none) else none) else none) else none) else none)) else none) else none)))
theorem yN:M3 X9 X5:=cT QS rfl ⟨rfl,rfl⟩ (by kernel_rfl)
def fj:=cG Qt (AH Cv) (AH Cv) kx
def fk:=kE 0 [(3,0)] [3] 1 fj kx
def dZ:St->Option (RT (BL.outs Cv)):=lG Qs [(3,0)] [0,3,4] 1 (AH Cv) fk
def EJ (x0:List AC) (x1:Int) (x2:List AC):Option (List AC):=dZ ⟨[(0,.lst AL x0),(3,.row 0),(4,.int .i64 x1)],[.rows 112 AL x2]⟩
def JE (x0:List AC) (x1:Int) (x2:List AC):Option (List AC):=(if (decide (x1<(x0.length:Int)))=true then (if 0<=x1 then (if x1<(x0.length:Int) then (if ([]:List AB).length+((((((x0.getD x1.toNat (0,0,0,0,0,([]:List AB))).2).2).2).2).2).length<=68719476736 then (if x2.length+([((x0.getD x1.toNat (0,0,0,0,0,([]:List AB))).1,((x0.getD x1.toNat (0,0,0,0,0,([]:List AB))).2).1,(((x0.getD x1.toNat (0,0,0,0,0,([]:List AB))).2).2).1,((((x0.getD x1.toNat (0,0,0,0,0,([]:List AB))).2).2).2).1,(((((x0.getD x1.toNat (0,0,0,0,0,([]:List AB))).2).2).2).2).1,(([]:List AB)++((((((x0.getD x1.toNat (0,0,0,0,0,([]:List AB))).2).2).2).2).2)))]:List AC).length<=68719476736 then (EJ x0 (i64.wrap (x1+1)) (x2++([((x0.getD x1.toNat (0,0,0,0,0,([]:List AB))).1,((x0.getD x1.toNat (0,0,0,0,0,([]:List AB))).2).1,(((x0.getD x1.toNat (0,0,0,0,0,([]:List AB))).2).2).1,((((x0.getD x1.toNat (0,0,0,0,0,([]:List AB))).2).2).2).1,(((((x0.getD x1.toNat (0,0,0,0,0,([]:List AB))).2).2).2).2).1,(([]:List AB)++((((((x0.getD x1.toNat (0,0,0,0,0,([]:List AB))).2).2).2).2).2)))]:List AC))) else none) else none) else none) else none) else (some x2))
def U0 (x0:List AC):Option (List AC):=(EJ x0 0 ([]:List AC))
theorem PT:M3 JE EJ:=lS (by kernel_rfl)
theorem kz:LZ U0 MP:=cT Cv rfl ⟨rfl,rfl⟩ (by kernel_rfl)
def fm (x0:Y):Option Y:=(if ([]:List Int).length+x0.2.2.2.2.2.2.1.length<=68719476736 then (if ([]:List AB).length+x0.2.2.2.2.2.2.2.1.length<=68719476736 then (if ([]:List Int).length+x0.2.2.2.2.2.2.2.2.2.2.2.2.2.length<=68719476736 then (some (x0.1,x0.2.1,x0.2.2.1,x0.2.2.2.1,x0.2.2.2.2.1,x0.2.2.2.2.2.1,(([]:List Int)++x0.2.2.2.2.2.2.1),(([]:List AB)++x0.2.2.2.2.2.2.2.1),x0.2.2.2.2.2.2.2.2.1,x0.2.2.2.2.2.2.2.2.2.1,x0.2.2.2.2.2.2.2.2.2.2.1,x0.2.2.2.2.2.2.2.2.2.2.2.1,x0.2.2.2.2.2.2.2.2.2.2.2.2.1,(([]:List Int)++x0.2.2.2.2.2.2.2.2.2.2.2.2.2))) else none) else none) else none)
theorem wL:LZ fm Dv:=cT Nq rfl ⟨rfl,rfl⟩ (by kernel_rfl)
def qX:=cG Nr (AH Bh) (AH Bh) kx
def qY:=kE 2 [(5,0)] [5] 1 qX kx
def na:St->Option (RT (BL.outs Bh)):=lG V_ [(5,0)] [5,28,29,30] 1 (AH Bh) qY
def qZ:=cG Ns (AH Bh) (AH Bh) kx
def qa:=kE 0 [] [0] 0 qZ kx
def nb:St->Option (RT (BL.outs Bh)):=lG Yt [] [0,4] 0 (AH Bh) qa
def XH (x0:List ByteArray):Option (List ByteArray×Bool):=cG Nr (AH Bh) (AH Bh) kx ⟨[(5,.row 0)],[.rows 9 .str x0]⟩
def G7 (x0:List ByteArray) (x1 x2:Int) (x3:List ByteArray):Option (List ByteArray×Bool):=na ⟨[(5,.row 0),(28,.lst .str x0),(29,.int .i64 x1),(30,.int .i64 x2)],[.rows 9 .str x3]⟩
def XI (x0:ByteArray):Option (List ByteArray×Bool):=cG Ns (AH Bh) (AH Bh) kx ⟨[(0,.str x0)],[]⟩
def Ji (x0:ByteArray) (x1:Int):Option (List ByteArray×Bool):=nb ⟨[(0,.str x0),(4,.int .i64 x1)],[]⟩
def XJ (x0:List ByteArray):Option (List ByteArray×Bool):=(if (decide ((x0.length:Int)>10))=true then (some ([],false)) else (some (x0,true)))
def Of (x0:List ByteArray) (x1 x2:Int) (x3:List ByteArray):Option (List ByteArray×Bool):=(if (decide (x2<x1))=true then (if 0<=x2 then (if x2<(x0.length:Int) then (if (!((x0.getD x2.toNat U).toList==(⟨#[]⟩:ByteArray).toList))=true then (if x3.length+([(x0.getD x2.toNat U)]:List ByteArray).length<=68719476736 then (G7 x0 x1 (i64.wrap (x2+1)) (x3++([(x0.getD x2.toNat U)]:List ByteArray))) else none) else (G7 x0 x1 (i64.wrap (x2+1)) x3)) else none) else none) else (XH x3))
def XK (x0:ByteArray):Option (List ByteArray×Bool):=((Ge x0 (⟨#[32]⟩:ByteArray)).bind fun y1=>(G7 y1 (y1.length:Int) 0 ([]:List ByteArray)))
def Og (x0:ByteArray) (x1:Int):Option (List ByteArray×Bool):=(if (decide (x1<(x0.size:Int)))=true then (if 0<=x1 then (if x1<(x0.size:Int) then (if (decide (((x0.data.toList.getD x1.toNat 0).toNat:Int)<32))=false then (if 0<=x1 then (if x1<(x0.size:Int) then (if (decide (((x0.data.toList.getD x1.toNat 0).toNat:Int)>126))=true then (some ([],false)) else (Ji x0 (i64.wrap (x1+1)))) else none) else none) else (some ([],false))) else none) else none) else (XI x0))
def fo (x0:ByteArray):Option (List ByteArray×Bool):=(if (decide ((x0.size:Int)>600))=true then (some ([],false)) else (Ji x0 0))
theorem nc:LZ XJ XH:=jS (by kernel_rfl)
theorem XL:X1 Of G7:=lS (by kernel_rfl)
theorem ne:LZ XK XI:=jS (by kernel_rfl)
theorem XM:PD Og Ji:=lS (by kernel_rfl)
theorem wM:LZ fo UH:=cT Bh rfl ⟨rfl,rfl⟩ (by kernel_rfl)
def S0 (x0 x1:ByteArray):Option Bool:=((Dx x0 x1).bind fun y1=>(some y1))
theorem iu:PD S0 K6:=cT HV rfl ⟨rfl,rfl⟩ (by kernel_rfl)
def PU (x0:List ByteArray) (x1:Bool) (x2:List (List Int)) (x3:List AD):Option (Bool×At):=cG Qu (AH EQ) (AH EQ) kx ⟨[(0,.ptr 0 0),(1,.lst .str x0),(17,.bool x1)],[.var [.row 1,.row 2],.rows 37 .S x2,.rows 72 AJ x3]⟩
def JF (x0:List ByteArray) (x1:Bool) (x2:List (List Int)) (x3:List AD):Option (Bool×At):=(if 0<=(1:Int) then (if 1<(x0.length:Int) then ((X6 (x0.getD (1:Int).toNat U)).bind fun y1=>(if x2.length+([y1.1]:List (List Int)).length<=68719476736 then (if y1.2=true then ((DL (x2++([y1.1]:List (List Int)))).bind fun y2=>(some (y2,((x2++([y1.1]:List (List Int))),x3)))) else (some (false,((x2++([y1.1]:List (List Int))),x3)))) else none)) else none) else none)
def Mp (x1:List ByteArray) (b0:At):Option (Bool×At):=(if ((x1.length:Int) != 2)=false then (if (decide ((b0.2.length:Int)>0))=true then (some (false,b0)) else (PU x1 (decide ((b0.2.length:Int)>0)) b0.1 b0.2)) else (some (false,b0)))
theorem PV:X1 JF PU:=jS (by kernel_rfl)
theorem k_:PD Mp MQ:=cT EQ rfl ⟨rfl,rfl⟩ (by kernel_rfl)
def ZX:=cG Ps (AH Cw) (AH Cw) kx
def qb:=kB [] [2,7,8] 2 ZX
def qc:=kE 0 [] [2,7,8] 2 ZX kx
def E0 (x0:Bool) (x1 x2:AD):Option (AD×Bool):=cG Ps (AH Cw) (AH Cw) kx ⟨[(2,.ptr 0 0),(7,.bool x0),(8,.ptr 1 0)],[.var (AJ.enc x1),.var (AJ.enc x2)]⟩
def E1 (x0:List ByteArray) (x1 x2:Int) (x3:Bool) (x4:Int) (x5:Bool) (x6 x7:AD):Option (AD×Bool):=cG Yu qb (AH Cw) qc ⟨[(0,.lst .str x0),(2,.ptr 0 0),(5,.int .i64 x1),(6,.int .i64 x2),(7,.bool x3),(8,.ptr 1 0),(35,.int .i64 x4),(36,.bool x5)],[.var (AJ.enc x6),.var (AJ.enc x7)]⟩
def Jj (x0:List ByteArray) (x1 x2:Int) (x3:Bool) (x4:AD):Option (AD×Bool):=cG WA (AH Cw) (AH Cw) kx ⟨[(0,.lst .str x0),(2,.ptr 0 0),(4,.int .i64 x1),(5,.int .i64 x2),(23,.bool x3)],[.var (AJ.enc x4)]⟩
def XN (x0:Bool) (x1 x2:AD):Option (AD×Bool):=(if x0=true then ((N7 x2).bind fun y3=>(some (x2,y3))) else (some (x2,false)))
def Jk (x0:List ByteArray) (x1 x2:Int) (x3:Bool) (x4:Int) (x5:Bool) (x6 x7:AD):Option (AD×Bool):=(if x5=true then (E0 x3 x6 (x7.1,1,x2,x7.2.2.2)) else (if (x4==1)=true then (if 0<=(2:Int) then (if 2<(x0.length:Int) then (if (x1==4)=true then (if 0<=(3:Int) then (if 3<(x0.length:Int) then (E0 x3 x6 (x7.1,x7.2.1,x7.2.2.1,1,(x0.getD (2:Int).toNat U),(x0.getD (3:Int).toNat U))) else none) else none) else (E0 x3 x6 (x7.1,x7.2.1,x7.2.2.1,2,(x0.getD (2:Int).toNat U),x7.2.2.2.2.2))) else none) else none) else (E0 x3 x6 x7)))
def Jl (x0:List ByteArray) (x1 x2:Int) (x3:Bool) (x4:AD):Option (AD×Bool):=(if 0<=(1:Int) then (if 1<(x0.length:Int) then ((IZ (x0.getD (1:Int).toNat U)).bind fun y2=>(if (x1==2)=true then (E1 x0 x2 y2.1 y2.2 x1 (x1==2) x4 (x1,y2.1,0,0,U,U)) else (if (x1==3)=true then (E1 x0 x2 y2.1 y2.2 x1 (x1==3) x4 (x1,y2.1,0,0,U,U)) else (E1 x0 x2 y2.1 y2.2 x1 (x1==4) x4 (x1,y2.1,0,0,U,U))))) else none) else none)
def fp (x0:List ByteArray):Option (AD×Bool):=(if 0<=(0:Int) then (if 0<(x0.length:Int) then ((X7 (x0.getD (0:Int).toNat U)).bind fun y1=>(if (y1.1==0)=false then (if ((x0.length:Int) != y1.2)=true then (some ((0,0,0,0,U,U),false)) else (Jj x0 y1.1 y1.2 ((x0.length:Int) != y1.2) (0,0,0,0,U,U))) else (some ((0,0,0,0,U,U),false)))) else none) else none)
theorem ng:M3 XN E0:=jS (by kernel_rfl)
theorem Oh:Le8 Jk E1:=jS (by kernel_rfl)
theorem Oi:rq Jl Jj:=jS (by kernel_rfl)
theorem wN:LZ fp UI:=cT Cw rfl ⟨rfl,rfl⟩ (by kernel_rfl)
def nh:=cG T7 (AH CL) (AH CL) kx
def Oj:=kE 0 [(3,1)] [3] 2 nh kx
def U1:St->Option (RT (BL.outs CL)):=lG T6 [(3,1)] [0,3,4] 2 (AH CL) Oj
def ni:=kB [(3,1)] [0,3,4] 2 U1
def XO:=cG T5 ni (AH CL) Oj
def nj:=kB [(3,1)] [0,3,4] 2 XO
def XP:=kE 1 [(3,1)] [0,3,4] 2 XO Oj
def nl:=cG WC nj (AH CL) XP
def nn:=kE 2 [(3,1),(5,2)] [0,3,4,5] 3 nl XP
def lA:St->Option (RT (BL.outs CL)):=lG WB [(3,1),(5,2)] [0,3,4,5,6] 3 (AH CL) nn
def GD (x0 x1:Int) (x2:AM) (x3:List (List Int)) (x4:List Int):Option (List (List Int)×AM):=lA ⟨[(0,.ptr 0 0),(3,.row 1),(4,.int .i64 x0),(5,.row 2),(6,.int .i64 x1)],[.var (Ao.enc x2),.rows 37 .S x3,.rows 3 .W x4]⟩
def GE (x0:Int) (x1:AM) (x2:List (List Int)):Option (List (List Int)×AM):=U1 ⟨[(0,.ptr 0 0),(3,.row 1),(4,.int .i64 x0)],[.var (Ao.enc x1),.rows 37 .S x2]⟩
def GF (x0 x1:Int) (x2:AM) (x3:List (List Int)) (x4:List Int):Option (List (List Int)×AM):=((CM 3 x2).bind fun y2=>(if (decide (x1<(i64.wrap (1+y2.1))))=true then ((CM 4 y2.2).bind fun y3=>((Ec x4 (i64.wrap (1+y3.1))).bind fun y4=>(if (!y4)=true then (if x4.length+([(i64.wrap (1+y3.1))]:List Int).length<=68719476736 then (GD x0 (i64.wrap (x1+1)) y3.2 x3 (x4++([(i64.wrap (1+y3.1))]:List Int))) else none) else (GD x0 (i64.wrap (x1+1)) y3.2 x3 x4)))) else (if x3.length+([x4]:List (List Int)).length<=68719476736 then (GE (i64.wrap (x0+1)) y2.2 (x3++([x4]:List (List Int)))) else none)))
def Il (x0:Int) (x1:AM) (x2:List (List Int)):Option (List (List Int)×AM):=((CM 5 x1).bind fun y1=>(if (decide (x0<(i64.wrap (1+y1.1))))=true then (GD x0 0 y1.2 x2 ([]:List Int)) else (some (x2,y1.2))))
def cY (b0:AM):Option (List (List Int)×AM):=(GE 0 b0 ([]:List (List Int)))
theorem Im:rq GF GD:=lS (by kernel_rfl)
theorem Mq:M3 Il GE:=lS (by kernel_rfl)
theorem tD:LZ cY Rn:=cT CL rfl ⟨rfl,rfl⟩ (by kernel_rfl)

def ZY:=cG WF (AH Bi) (AH Bi) kx
def ZZ:=kB [] [4,5] 4 ZY
def Za:=kE 0 [] [4,5] 4 ZY kx
def qd:=kE 1 [] [4,5] 6 ZZ Za
def no:St->Option (RT (BL.outs Bi)):=lG Yw [] [0,1,4,5,6] 6 (AH Bi) qd
def qe:=kE 3 [] [4,5] 4 ZZ Za
def np:St->Option (RT (BL.outs Bi)):=lG WE [] [0,1,4,5,7] 4 (AH Bi) qe
def D1 (x0:Int) (x1:AM) (x2:AF) (x3 x4:AD) (x5:List Int) (x6:List ByteArray):Option (AD×AM×AF):=no ⟨[(0,.ptr 0 0),(1,.ptr 1 0),(4,.ptr 2 0),(5,.ptr 3 0),(6,.int .i64 x0)],[.var (Ao.enc x1),.var (Af.enc x2),.var (AJ.enc x3),.var (AJ.enc x4),.frz .W x5,.frz .str x6]⟩
def D2 (x0:Int) (x1:AM) (x2:AF) (x3 x4:AD):Option (AD×AM×AF):=np ⟨[(0,.ptr 0 0),(1,.ptr 1 0),(4,.ptr 2 0),(5,.ptr 3 0),(7,.int .i64 x0)],[.var (Ao.enc x1),.var (Af.enc x2),.var (AJ.enc x3),.var (AJ.enc x4)]⟩
def G8 (x0:AM) (x1:AF) (x2 x3:AD):Option (AD×AM×AF):=cG WG (AH Bi) (AH Bi) kx ⟨[(0,.ptr 0 0),(1,.ptr 1 0),(4,.ptr 2 0),(5,.ptr 3 0)],[.var (Ao.enc x0),.var (Af.enc x1),.var (AJ.enc x2),.var (AJ.enc x3)]⟩
def BS (x0:AM) (x1:AF) (x2 x3:AD):Option (AD×AM×AF):=cG WH (AH Bi) (AH Bi) kx ⟨[(0,.ptr 0 0),(1,.ptr 1 0),(4,.ptr 2 0),(5,.ptr 3 0)],[.var (Ao.enc x0),.var (Af.enc x1),.var (AJ.enc x2),.var (AJ.enc x3)]⟩
def Ok (x0:AM) (x1:AF) (x2 x3:AD):Option (AD×AM×AF):=cG WI (AH Bi) (AH Bi) kx ⟨[(0,.ptr 0 0),(1,.ptr 1 0),(4,.ptr 2 0),(5,.ptr 3 0)],[.var (Ao.enc x0),.var (Af.enc x1),.var (AJ.enc x2),.var (AJ.enc x3)]⟩
def G9 (x0:Int) (x1:AM) (x2:AF) (x3 x4:AD) (x5:List Int) (x6:List ByteArray):Option (AD×AM×AF):=(if (decide (x0<(x2.2.1.length:Int)))=true then (if 0<=x0 then (if x0<(x2.2.1.length:Int) then (if (((((((x2.2.1.getD x0.toNat (0,0,false,false,false,false,([]:List Int),([]:List AB),0,0,0,0,(U,U,0),([]:List Int))).2).2).2).2).2).1)=true then ((Cy 4 x1).bind fun y10=>(if (!y10.1)=true then (D1 (i64.wrap (x0+1)) y10.2 x2 x3 (x4.1,(i64.wrap (x0+1)),x4.2.2) x5 x6) else (D1 (i64.wrap (x0+1)) y10.2 x2 x3 x4 x5 x6))) else (D1 (i64.wrap (x0+1)) x1 x2 x3 x4 x5 x6)) else none) else none) else (some (x4,x1,x2)))
def E2 (x0:Int) (x1:AM) (x2:AF) (x3 x4:AD):Option (AD×AM×AF):=(if (decide (x0<(x2.2.1.length:Int)))=true then (if 0<=x0 then (if x0<(x2.2.1.length:Int) then (if (decide ((((x2.2.1.getD x0.toNat (0,0,false,false,false,false,([]:List Int),([]:List AB),0,0,0,0,(U,U,0),([]:List Int))).2).1)<(x2.1.length:Int)))=true then (if 0<=(((x2.2.1.getD x0.toNat (0,0,false,false,false,false,([]:List Int),([]:List AB),0,0,0,0,(U,U,0),([]:List Int))).2).1) then (if (((x2.2.1.getD x0.toNat (0,0,false,false,false,false,([]:List Int),([]:List AB),0,0,0,0,(U,U,0),([]:List Int))).2).1)<(x2.1.length:Int) then (if 0<=(0:Int) then (if 0<((x2.1.getD (((x2.2.1.getD x0.toNat (0,0,false,false,false,false,([]:List Int),([]:List AB),0,0,0,0,(U,U,0),([]:List Int))).2).1).toNat ([]:List Int)).length:Int) then (if (((x2.1.getD (((x2.2.1.getD x0.toNat (0,0,false,false,false,false,([]:List Int),([]:List AB),0,0,0,0,(U,U,0),([]:List Int))).2).1).toNat ([]:List Int)).getD (0:Int).toNat 0)==((x2.2.1.getD x0.toNat (0,0,false,false,false,false,([]:List Int),([]:List AB),0,0,0,0,(U,U,0),([]:List Int))).1))=true then ((Cy 3 x1).bind fun y11=>(if (!y11.1)=true then (D2 (i64.wrap (x0+1)) y11.2 x2 x3 (x4.1,(x2.2.1.getD x0.toNat (0,0,false,false,false,false,([]:List Int),([]:List AB),0,0,0,0,(U,U,0),([]:List Int))).1,x4.2.2)) else (D2 (i64.wrap (x0+1)) y11.2 x2 x3 x4))) else (D2 (i64.wrap (x0+1)) x1 x2 x3 x4)) else none) else none) else none) else none) else (D2 (i64.wrap (x0+1)) x1 x2 x3 x4)) else none) else none) else (some (x4,x1,x2)))
def G_ (x0:AM) (x1:AF) (x2 x3:AD):Option (AD×AM×AF):=(if (x3.1==1)=true then ((JO ([1,1,2]:List Int) x0).bind fun y7=>((F3 ([(⟨#[97]⟩:ByteArray),(⟨#[98]⟩:ByteArray),(⟨#[99]⟩:ByteArray)]:List ByteArray) y7.2).bind fun y8=>(if (y7.1==1)=true then ((F3 ([(⟨#[118]⟩:ByteArray),(⟨#[119]⟩:ByteArray),(⟨#[120]⟩:ByteArray),(⟨#[121]⟩:ByteArray)]:List ByteArray) y8.2).bind fun y9=>(D1 0 y9.2 x1 x2 (x3.1,x3.2.1,x3.2.2.1,y7.1,y8.1,y9.1) ([1,1,2]:List Int) ([(⟨#[97]⟩:ByteArray),(⟨#[98]⟩:ByteArray),(⟨#[99]⟩:ByteArray)]:List ByteArray))) else (D1 0 y8.2 x1 x2 (x3.1,x3.2.1,x3.2.2.1,y7.1,y8.1,x3.2.2.2.2.2) ([1,1,2]:List Int) ([(⟨#[97]⟩:ByteArray),(⟨#[98]⟩:ByteArray),(⟨#[99]⟩:ByteArray)]:List ByteArray))))) else (if (x3.1==5)=true then (D2 0 x0 x1 x2 x3) else (some (x3,x0,x1))))
def Jm (x0:AM) (x1:AF) (x2 x3:AD):Option (AD×AM×AF):=(if (x3.1==2)=true then ((Cy 2 x0).bind fun y6=>(if y6.1=true then (G8 y6.2 x1 x2 (x3.1,x3.2.1,0,x3.2.2.2)) else (G8 y6.2 x1 x2 x3))) else (G8 x0 x1 x2 x3))
def Jn (x0:AM) (x1:AF) (x2 x3:AD):Option (AD×AM×AF):=(if ((x1.2.2.1.length:Int)==0)=true then ((Ad x3.1 2 4).bind fun y4=>(if y4=true then (if ((1:Int)==6)=true then ((Cy 4 x0).bind fun y5=>(if (!y5.1)=true then (BS y5.2 x1 x2 (1,x3.2)) else (BS y5.2 x1 x2 (1,x3.2)))) else (BS x0 x1 x2 (1,x3.2))) else (if (x3.1==6)=true then ((Cy 4 x0).bind fun y12=>(if (!y12.1)=true then (BS y12.2 x1 x2 (1,x3.2)) else (BS y12.2 x1 x2 x3))) else (BS x0 x1 x2 x3)))) else (if (x3.1==6)=true then ((Cy 4 x0).bind fun y13=>(if (!y13.1)=true then (BS y13.2 x1 x2 (1,x3.2)) else (BS y13.2 x1 x2 x3))) else (BS x0 x1 x2 x3)))
def fq (b0:AM) (b1:AF):Option (AD×AM×AF):=((JO ([1,1,1,2,2,2,2,2,2,2,2,3,4,5,6]:List Int) b0).bind fun y1=>((CM 4 y1.2).bind fun y2=>((CM 20 y2.2).bind fun y3=>(Ok y3.2 b1 (0,0,0,0,U,U) (y1.1,(i64.wrap (1+y2.1)),y3.1,0,U,U)))))
theorem Jo:Le7 G9 D1:=lS (by kernel_rfl)
theorem HA:rq E2 D2:=lS (by kernel_rfl)
theorem Jp:X1 G_ G8:=jS (by kernel_rfl)
theorem Ol:X1 Jm BS:=jS (by kernel_rfl)
theorem Om:X1 Jn Ok:=jS (by kernel_rfl)
theorem wO:PD fq UJ:=cT Bi rfl ⟨rfl,rfl⟩ (by kernel_rfl)
def U2 (b0:AM):Option (Int×AM):=(if 33<0 then none else (if 45<0 then none else (if (decide (b0.2.1<(b0.1.length:Int)))=true then (if 0<=b0.2.1 then (if b0.2.1<(b0.1.length:Int) then (some ((NL .i64 (i64.wrap ((NL .i64 (ld .i64 (Int.fdiv (i64.wrap ((i64.wrap (b0.2.2*6364136223846793005))+1442695040888963407)) (2^(min (33:Int).toNat (IntKind.bits .i64)))) (Int.fdiv (i64.wrap ((i64.wrap (b0.2.2*6364136223846793005))+1442695040888963407)) (2^(min (45:Int).toNat (IntKind.bits .i64))))) 255)+(i64.wrap (b0.1.getD b0.2.1.toNat 0)))) 255),(b0.1,(i64.wrap (b0.2.1+1)),(i64.wrap ((i64.wrap (b0.2.2*6364136223846793005))+1442695040888963407))))) else none) else none) else (some ((NL .i64 (ld .i64 (Int.fdiv (i64.wrap ((i64.wrap (b0.2.2*6364136223846793005))+1442695040888963407)) (2^(min (33:Int).toNat (IntKind.bits .i64)))) (Int.fdiv (i64.wrap ((i64.wrap (b0.2.2*6364136223846793005))+1442695040888963407)) (2^(min (45:Int).toNat (IntKind.bits .i64))))) 255),(b0.1,b0.2.1,(i64.wrap ((i64.wrap (b0.2.2*6364136223846793005))+1442695040888963407))))))))
theorem wP:LZ U2 F4:=cT Nt rfl ⟨rfl,rfl⟩ (by kernel_rfl)
def wQ:=cG eS (AH Gr) (AH Gr) kx
def wR:=kE 0 [] [] 0 wQ kx
def tE:St->Option (RT (BL.outs Gr)):=lG eR [] [0,1,5] 0 (AH Gr) wR
def L9 (x0:List Int) (x1 x2:Int):Option Bool:=tE ⟨[(0,.lst .W x0),(1,.int .i64 x1),(5,.int .i64 x2)],[]⟩
def Rt (x0:List Int) (x1 x2:Int):Option Bool:=(if (decide (x2<(x0.length:Int)))=true then (if 0<=x2 then (if x2<(x0.length:Int) then (if ((x0.getD x2.toNat 0)==x1)=true then (some true) else (L9 x0 x1 (i64.wrap (x2+1)))) else none) else none) else (some false))
def nq (x0:List Int) (x1:Int):Option Bool:=(L9 x0 x1 0)
theorem cZ:M3 Rt L9:=lS (by kernel_rfl)
theorem AAL:PD nq Ec:=cT Gr rfl ⟨rfl,rfl⟩ (by kernel_rfl)
def X_:=cG Lb (AH B3) (AH B3) kx
def YA:=kE 0 [] [] 0 X_ kx
def VN:St->Option (RT (BL.outs B3)):=lG La [] [0,1,7,8] 0 (AH B3) YA
def C9 (x0:List Int) (x1 x2 x3:Int):Option Int:=VN ⟨[(0,.lst .W x0),(1,.int .i64 x1),(7,.int .i64 x2),(8,.int .i64 x3)],[]⟩
def Bx (x0:List Int) (x1 x2 x3:Int):Option Int:=(if (decide (x3<x2))=true then (if 0<=x3 then (if x3<(x0.length:Int) then (if (x1==(x0.getD x3.toNat 0))=true then (some x3) else (C9 x0 x1 x2 (i64.wrap (x3+1)))) else none) else none) else (some (-1:Int)))
def ar (x0:List Int) (x1:Int):Option Int:=(C9 x0 x1 (x0.length:Int) 0)
theorem CT:X1 Bx C9:=lS (by kernel_rfl)
theorem On:PD ar Dw:=cT B3 rfl ⟨rfl,rfl⟩ (by kernel_rfl)
def Kw (x0:List Int) (x1:Int):Option Bool:=((Dw x0 x1).bind fun y1=>(some (decide (y1>=0))))
theorem VO:PD Kw C8:=cT EG rfl ⟨rfl,rfl⟩ (by kernel_rfl)
def ns (x0:ByteArray):Option Bool:=((Av (x0.size:Int) 1 12).bind fun y1=>(some y1))
theorem AAM:LZ ns TJ:=cT TE rfl ⟨rfl,rfl⟩ (by kernel_rfl)
def L_ (x0:List Int) (x1 x2 x3:Y) (x4:AB) (x5:List Int) (x6:AC):Option (Y×List AC×List AN×Bool):=cG eU (AH Eb) (AH Eb) kx ⟨[(12,.ptr 1 0),(16,.ptr 2 0),(18,.lst .W x0),(20,.ptr 5 0)],[.var (Z.enc x1),.var (Z.enc x2),.var (Z.enc x3),.var (AK.enc x4),.frz .W x5,.var (AL.enc x6)]⟩
def It (x0:List (List Int)) (x1 x2:Int) (x3:Bool) (x4 x5 x6:Y) (x7:AB):Option (Y×List AC×List AN×Bool):=cG bP (AH Eb) (AH Eb) kx ⟨[(1,.lst .S x0),(2,.int .i64 x1),(3,.int .i64 x2),(6,.ptr 0 0),(12,.ptr 1 0),(16,.ptr 2 0),(17,.ptr 3 0),(69,.bool x3)],[.var (Z.enc x4),.var (Z.enc x5),.var (Z.enc x6),.var (AK.enc x7)]⟩
def ca (x0:List (List Int)) (x1 x2:Int) (x3 x4:ByteArray) (x5:Bool) (x6 x7:Y):Option (Y×List AC×List AN×Bool):=cG bQ (AH Eb) (AH Eb) kx ⟨[(1,.lst .S x0),(2,.int .i64 x1),(3,.int .i64 x2),(4,.str x3),(5,.str x4),(6,.ptr 0 0),(12,.ptr 1 0),(37,.bool x5)],[.var (Z.enc x6),.var (Z.enc x7)]⟩
def cd (x0:List Int) (x1 x2 x3:Y) (x4:AB) (x5:List Int) (x6:AC):Option (Y×List AC×List AN×Bool):=(if ((x0.length:Int)==0)=true then ((Ib x3).bind fun y9=>(some (y9.2,[],y9.1,true))) else (AAl ((Aq x0 x6 x3).bind fun y10=>(some (x3,y10.1,[],true))) ((Aq x0 x6 x3).bind fun y11=>(some (y11.2,y11.1,[],true)))))
def cf (x0:List (List Int)) (x1 x2:Int) (x3:Bool) (x4 x5 x6:Y) (x7:AB):Option (Y×List AC×List AN×Bool):=(if 0<=(i64.wrap (x4.2.1-1)) then (if (i64.wrap (x4.2.1-1))<(x0.length:Int) then ((CS (x0.getD (i64.wrap (x4.2.1-1)).toNat ([]:List Int)) x6).bind fun y6=>((B5 y6.1).bind fun y7=>((DI y7).bind fun y8=>(if (x1==1)=true then (L_ y6.1 x4 x5 (y6.2.1,y6.2.2.1,y6.2.2.2.1,y6.2.2.2.2.1,y6.2.2.2.2.2.1,y6.2.2.2.2.2.2.1,y6.2.2.2.2.2.2.2.1,y6.2.2.2.2.2.2.2.2.1,y6.2.2.2.2.2.2.2.2.2.1,x1,x2,y6.2.2.2.2.2.2.2.2.2.1,x7,y8) x7 y8 (5,0,0,0,y6.2.2.2.2.2.2.2.2.2.1,([x7]:List AB))) else (L_ y6.1 x4 x5 (y6.2.1,y6.2.2.1,y6.2.2.2.1,y6.2.2.2.2.1,y6.2.2.2.2.2.1,y6.2.2.2.2.2.2.1,y6.2.2.2.2.2.2.2.1,y6.2.2.2.2.2.2.2.2.1,y6.2.2.2.2.2.2.2.2.2.1,x1,x2,y6.2.2.2.2.2.2.2.2.2.1,x7,y8) x7 y8 (7,0,0,0,y6.2.2.2.2.2.2.2.2.2.1,([]:List AB))))))) else none) else none)
def cg (x0:List (List Int)) (x1 x2:Int) (x3 x4:ByteArray) (x5:Bool) (x6 x7:Y):Option (Y×List AC×List AN×Bool):=((DG x6).bind fun y4=>(if (x1==1)=true then (if ((x6.2.2.2.2.2.2.2.1.length:Int)==12)=true then ((QV x6.2.2.2.2.2.2.2.1 x3).bind fun y5=>(if (false != dy AK y5 (U,U,0))=true then (some ((0,0,false,false,false,false,([]:List Int),([]:List AB),0,0,0,0,(U,U,0),([]:List Int)),[],[],false)) else (It x0 x1 x2 (false != dy AK y5 (U,U,0)) x6 x7 (y4.1,y4.2.1,y4.2.2.1,y4.2.2.2.1,y4.2.2.2.2.1,y4.2.2.2.2.2.1,y4.2.2.2.2.2.2.1,y4.2.2.2.2.2.2.2.1,(i64.wrap (y4.2.2.2.2.2.2.2.2.1+1)),y4.2.2.2.2.2.2.2.2.2) (x3,x4,(i64.wrap ((i64.wrap (1000*x6.2.1))+(i64.wrap (y4.2.2.2.2.2.2.2.2.1+1)))))))) else (It x0 x1 x2 false x6 x7 (y4.1,y4.2.1,y4.2.2.1,y4.2.2.2.1,y4.2.2.2.2.1,y4.2.2.2.2.2.1,y4.2.2.2.2.2.2.1,y4.2.2.2.2.2.2.2.1,(i64.wrap (y4.2.2.2.2.2.2.2.2.1+1)),y4.2.2.2.2.2.2.2.2.2) (x3,x4,(i64.wrap ((i64.wrap (1000*x6.2.1))+(i64.wrap (y4.2.2.2.2.2.2.2.2.1+1))))))) else (It x0 x1 x2 false x6 x7 (y4.1,y4.2.1,y4.2.2.1,y4.2.2.2.1,y4.2.2.2.2.1,y4.2.2.2.2.2.1,y4.2.2.2.2.2.2.1,y4.2.2.2.2.2.2.2.1,(i64.wrap (y4.2.2.2.2.2.2.2.2.1+1)),y4.2.2.2.2.2.2.2.2.2) (x3,x4,(i64.wrap ((i64.wrap (1000*x6.2.1))+(i64.wrap (y4.2.2.2.2.2.2.2.2.1+1))))))))
def nt (x0:Y) (x1:List (List Int)) (x2 x3:Int) (x4 x5:ByteArray):Option (Y×List AC×List AN×Bool):=((Gc x0).bind fun y1=>(if (!y1)=false then ((Ia x1 x0).bind fun y2=>(if (!y2.1)=false then ((N8 x2 x3 x4 x5).bind fun y3=>(if (!y3)=true then (some ((0,0,false,false,false,false,([]:List Int),([]:List AB),0,0,0,0,(U,U,0),([]:List Int)),[],[],false)) else (ca x1 x2 x3 x4 x5 (!y3) y2.2 (0,0,false,false,false,false,([]:List Int),([]:List AB),0,0,0,0,(U,U,0),([]:List Int))))) else (some ((0,0,false,false,false,false,([]:List Int),([]:List AB),0,0,0,0,(U,U,0),([]:List Int)),[],[],false)))) else (some ((0,0,false,false,false,false,([]:List Int),([]:List AB),0,0,0,0,(U,U,0),([]:List Int)),[],[],false))))
theorem tF:Le7 cd L_:=jS (by kernel_rfl)
theorem tG:Le8 cf It:=jS (by kernel_rfl)
theorem tH:Le8 cg ca:=jS (by kernel_rfl)
theorem AAN:Le6 nt TK:=cT Eb rfl ⟨rfl,rfl⟩ (by kernel_rfl)
def LL:=kE 0 [] [] 4 (AH Cl) kx
def RH:St->Option (RT (BL.outs Cl)):=lG SL [] [0,3,20,21,22] 4 (AH Cl) LL
def iv:=kB [] [0,3,20,21,22] 4 RH
def S3:=cG SK iv (AH Cl) LL
def iw:=kB [] [0,3,20,21,22] 4 S3
def ix:=kE 1 [] [0,3,20,21,22] 4 S3 LL
def RI (x0:Int) (x1:List AN) (x2 x3:Int) (x4:Bool) (x5:List (List Int)) (x6:List Y) (x7:List AC) (x8:List AU) (x9:AN):Option AF:=cG SJ iw (AH Cl) ix ⟨[(0,.ptr 0 0),(3,.int .i64 x0),(9,.ptr 4 0),(20,.lst BG x1),(21,.int .i64 x2),(22,.int .i64 x3),(47,.bool x4)],[.var [.lst .S x5,.row 1,.row 2,.row 3],.rows 49 Z x6,.rows 112 AL x7,.rows 42 A_ x8,.var (BG.enc x9)]⟩
def Cz (x0:Int) (x1:List AN) (x2 x3:Int) (x4:List (List Int)) (x5:List Y) (x6:List AC) (x7:List AU):Option AF:=RH ⟨[(0,.ptr 0 0),(3,.int .i64 x0),(20,.lst BG x1),(21,.int .i64 x2),(22,.int .i64 x3)],[.var [.lst .S x4,.row 1,.row 2,.row 3],.rows 49 Z x5,.rows 112 AL x6,.rows 42 A_ x7]⟩
def RJ (x0:Int) (x1:List AN) (x2 x3:Int) (x4:Bool) (x5:List (List Int)) (x6:List Y) (x7:List AC) (x8:List AU) (x9:AN):Option AF:=(if 0<=x9.1 then (if x9.1<(x8.length:Int) then (let z2:List AU:=x8.set x9.1.toNat ((x8.getD x9.1.toNat (0,U,U,0,0,0,0,0,U)).1,((x8.getD x9.1.toNat (0,U,U,0,0,0,0,0,U)).2).1,(((x8.getD x9.1.toNat (0,U,U,0,0,0,0,0,U)).2).2).1,((((x8.getD x9.1.toNat (0,U,U,0,0,0,0,0,U)).2).2).2).1,x0,(((((x8.getD x9.1.toNat (0,U,U,0,0,0,0,0,U)).2).2).2).2).2); (let z3:List AU:=z2.set x9.1.toNat ((z2.getD x9.1.toNat (0,U,U,0,0,0,0,0,U)).1,((z2.getD x9.1.toNat (0,U,U,0,0,0,0,0,U)).2).1,(((z2.getD x9.1.toNat (0,U,U,0,0,0,0,0,U)).2).2).1,((((z2.getD x9.1.toNat (0,U,U,0,0,0,0,0,U)).2).2).2).1,(((((z2.getD x9.1.toNat (0,U,U,0,0,0,0,0,U)).2).2).2).2).1,x9.2.2.2.2.2,((((((z2.getD x9.1.toNat (0,U,U,0,0,0,0,0,U)).2).2).2).2).2).2); (let z4:List AU:=z3.set x9.1.toNat ((z3.getD x9.1.toNat (0,U,U,0,0,0,0,0,U)).1,((z3.getD x9.1.toNat (0,U,U,0,0,0,0,0,U)).2).1,(((z3.getD x9.1.toNat (0,U,U,0,0,0,0,0,U)).2).2).1,((((z3.getD x9.1.toNat (0,U,U,0,0,0,0,0,U)).2).2).2).1,(((((z3.getD x9.1.toNat (0,U,U,0,0,0,0,0,U)).2).2).2).2).1,((((((z3.getD x9.1.toNat (0,U,U,0,0,0,0,0,U)).2).2).2).2).2).1,x9.2.1,(((((((z3.getD x9.1.toNat (0,U,U,0,0,0,0,0,U)).2).2).2).2).2).2).2); (let z5:List AU:=z4.set x9.1.toNat ((z4.getD x9.1.toNat (0,U,U,0,0,0,0,0,U)).1,((z4.getD x9.1.toNat (0,U,U,0,0,0,0,0,U)).2).1,(((z4.getD x9.1.toNat (0,U,U,0,0,0,0,0,U)).2).2).1,((((z4.getD x9.1.toNat (0,U,U,0,0,0,0,0,U)).2).2).2).1,(((((z4.getD x9.1.toNat (0,U,U,0,0,0,0,0,U)).2).2).2).2).1,((((((z4.getD x9.1.toNat (0,U,U,0,0,0,0,0,U)).2).2).2).2).2).1,(((((((z4.getD x9.1.toNat (0,U,U,0,0,0,0,0,U)).2).2).2).2).2).2).1,x9.2.2.1,((((((((z4.getD x9.1.toNat (0,U,U,0,0,0,0,0,U)).2).2).2).2).2).2).2).2); (if (((z5.getD x9.1.toNat (0,U,U,0,0,0,0,0,U)).1)==2)=true then (let z6:List AU:=z5.set x9.1.toNat ((z5.getD x9.1.toNat (0,U,U,0,0,0,0,0,U)).1,((z5.getD x9.1.toNat (0,U,U,0,0,0,0,0,U)).2).1,(((z5.getD x9.1.toNat (0,U,U,0,0,0,0,0,U)).2).2).1,((((z5.getD x9.1.toNat (0,U,U,0,0,0,0,0,U)).2).2).2).1,(((((z5.getD x9.1.toNat (0,U,U,0,0,0,0,0,U)).2).2).2).2).1,((((((z5.getD x9.1.toNat (0,U,U,0,0,0,0,0,U)).2).2).2).2).2).1,(((((((z5.getD x9.1.toNat (0,U,U,0,0,0,0,0,U)).2).2).2).2).2).2).1,((((((((z5.getD x9.1.toNat (0,U,U,0,0,0,0,0,U)).2).2).2).2).2).2).2).1,x9.2.2.2.2.1); (Cz x0 x1 x2 (i64.wrap (x3+1)) x5 x6 x7 z6)) else (Cz x0 x1 x2 (i64.wrap (x3+1)) x5 x6 x7 z5)))))) else none) else none)
def KM (x0:Int) (x1:List AN) (x2 x3:Int) (x4:List (List Int)) (x5:List Y) (x6:List AC) (x7:List AU):Option AF:=(if (decide (x3<x2))=true then (if 0<=x3 then (if x3<(x1.length:Int) then ((Av ((x1.getD x3.toNat (0,0,0,U,U,0)).1) 0 (i64.wrap ((x7.length:Int)-1))).bind fun y1=>(if (!y1)=true then (Cz x0 x1 x2 (i64.wrap (x3+1)) x4 x5 x6 x7) else (if 0<=((x1.getD x3.toNat (0,0,0,U,U,0)).1) then (if ((x1.getD x3.toNat (0,0,0,U,U,0)).1)<(x7.length:Int) then (if (((((((x7.getD (((x1.getD x3.toNat (0,0,0,U,U,0)).1).toNat) (0,U,U,0,0,0,0,0,U)).2).2).2).2).1) != (-1:Int))=true then (Cz x0 x1 x2 (i64.wrap (x3+1)) x4 x5 x6 x7) else (RI x0 x1 x2 x3 (((((((x7.getD (((x1.getD x3.toNat (0,0,0,U,U,0)).1).toNat) (0,U,U,0,0,0,0,0,U)).2).2).2).2).1) != (-1:Int)) x4 x5 x6 x7 (x1.getD x3.toNat (0,0,0,U,U,0)))) else none) else none))) else none) else none) else (some (x4,x5,x6,x7)))
def XQ (x1:List AC) (x2:List AN) (x3:Int) (b0:AF):Option AF:=(if b0.2.2.1.length+x1.length<=68719476736 then (Cz x3 x2 (x2.length:Int) 0 b0.1 b0.2.1 (b0.2.2.1++x1) b0.2.2.2) else none)
theorem fu:ADV RJ RI:=jS (by kernel_rfl)
theorem RK:Le8 KM Cz:=lS (by kernel_rfl)
theorem nu:X1 XQ Gw:=cT Cl rfl ⟨rfl,rfl⟩ (by kernel_rfl)
def MA (x0:List (List Int)) (x1:Int) (x2:Bool) (x3 x4 x5:Y):Option (Y×List AC×Bool):=cG bV (AH Gs) (AH Gs) kx ⟨[(1,.lst .S x0),(2,.int .i64 x1),(6,.ptr 1 0),(9,.ptr 2 0),(10,.bool x2)],[.var (Z.enc x3),.var (Z.enc x4),.var (Z.enc x5)]⟩
def ci (x0:List (List Int)) (x1:Int) (x2:Bool) (x3 x4:Y):Option (Y×List AC×Bool):=cG bW (AH Gs) (AH Gs) kx ⟨[(1,.lst .S x0),(2,.int .i64 x1),(3,.ptr 0 0),(6,.ptr 1 0),(44,.bool x2)],[.var (Z.enc x3),.var (Z.enc x4)]⟩
def cj (x0:List (List Int)) (x1:Int) (x2:Bool) (x3 x4 x5:Y):Option (Y×List AC×Bool):=((Gx x5).bind fun y5=>(if x2=true then (if 0<=(i64.wrap (x1-1)) then (if (i64.wrap (x1-1))<(x0.length:Int) then ((Dy (x0.getD (i64.wrap (x1-1)).toNat ([]:List Int)) y5.2.2.2.2.2.2.2.1 (y5.1,x1,false,false,true,y5.2.2.2.2.2)).bind fun y6=>(some (y6.2,y6.1,true))) else none) else none) else (if 0<=(i64.wrap (x1-2)) then (if (i64.wrap (x1-2))<(x0.length:Int) then (AAl ((CS (x0.getD (i64.wrap (x1-2)).toNat ([]:List Int)) (y5.1,x1,false,false,true,y5.2.2.2.2.2)).bind fun y7=>((Aq y7.1 (1,0,0,0,0,([]:List AB)) y7.2).bind fun y8=>(some ((y5.1,x1,false,false,true,y5.2.2.2.2.2),y8.1,true)))) ((CS (x0.getD (i64.wrap (x1-2)).toNat ([]:List Int)) (y5.1,x1,false,false,true,y5.2.2.2.2.2)).bind fun y9=>(AAl ((Aq y9.1 (1,0,0,0,0,([]:List AB)) y9.2).bind fun y10=>(some (y9.2,y10.1,true))) ((Aq y9.1 (1,0,0,0,0,([]:List AB)) y9.2).bind fun y11=>(some (y11.2,y11.1,true)))))) else none) else none)))
def cm (x0:List (List Int)) (x1:Int) (x2:Bool) (x3 x4:Y):Option (Y×List AC×Bool):=((DG x3).bind fun y4=>(if x3.2.2.2.1=true then (MA x0 x1 (x3.2.1==(i64.wrap (x1-1))) x3 x4 y4) else (MA x0 x1 false x3 x4 y4)))
def nw (x0:Y) (x1:List (List Int)) (x2:Int):Option (Y×List AC×Bool):=((Gc x0).bind fun y1=>(if (!y1)=true then (some ((0,0,false,false,false,false,([]:List Int),([]:List AB),0,0,0,0,(U,U,0),([]:List Int)),[],false)) else ((DL x1).bind fun y2=>(if (!y2)=true then (some ((0,0,false,false,false,false,([]:List Int),([]:List AB),0,0,0,0,(U,U,0),([]:List Int)),[],false)) else ((Av x2 2 (x1.length:Int)).bind fun y3=>(if (!y3)=true then (some ((0,0,false,false,false,false,([]:List Int),([]:List AB),0,0,0,0,(U,U,0),([]:List Int)),[],false)) else (if (decide (x2<=x0.2.1))=true then (some ((0,0,false,false,false,false,([]:List Int),([]:List AB),0,0,0,0,(U,U,0),([]:List Int)),[],false)) else (if 0<=(i64.wrap (x2-1)) then (if (i64.wrap (x2-1))<(x1.length:Int) then (if 0<=(0:Int) then (if 0<((x1.getD (i64.wrap (x2-1)).toNat ([]:List Int)).length:Int) then (if (((x1.getD (i64.wrap (x2-1)).toNat ([]:List Int)).getD (0:Int).toNat 0) != x0.1)=true then (some ((0,0,false,false,false,false,([]:List Int),([]:List AB),0,0,0,0,(U,U,0),([]:List Int)),[],false)) else (ci x1 x2 (((x1.getD (i64.wrap (x2-1)).toNat ([]:List Int)).getD (0:Int).toNat 0) != x0.1) x0 (0,0,false,false,false,false,([]:List Int),([]:List AB),0,0,0,0,(U,U,0),([]:List Int)))) else none) else none) else none) else none))))))))
theorem tI:Le6 cj MA:=jS (by kernel_rfl)
theorem tJ:rq cm ci:=jS (by kernel_rfl)
theorem AAO:M3 nw TL:=cT Gs rfl ⟨rfl,rfl⟩ (by kernel_rfl)
def Hz:=cG Db (AH Ag) (AH Ag) kx
def H5:=kE 0 [] [] 0 Hz kx
def HS:St->Option (RT (BL.outs Ag)):=lG Da [] [0,1,7,8] 0 (AH Ag) H5
def BY (x0:List Y) (x1 x2 x3:Int):Option Int:=HS ⟨[(0,.lst Z x0),(1,.clo 95 .W x1),(7,.int .i64 x2),(8,.int .i64 x3)],[]⟩
def CC (x0:List Y) (x1 x2 x3:Int):Option Int:=(if (decide (x3<x2))=true then (if 0<=x3 then (if x3<(x0.length:Int) then ((I9 (x0.getD x3.toNat (0,0,false,false,false,false,([]:List Int),([]:List AB),0,0,0,0,(U,U,0),([]:List Int))) x1).bind fun y1=>(if y1=true then (some x3) else (BY x0 x1 x2 (i64.wrap (x3+1))))) else none) else none) else (some (-1:Int)))
def D3 (x0:List Y) (x1:Int):Option Int:=(BY x0 x1 (x0.length:Int) 0)
theorem DS:X1 CC BY:=lS (by kernel_rfl)
theorem In:PD D3 CY:=cT Ag rfl ⟨rfl,rfl⟩ (by kernel_rfl)
def PW (x0:Y) (x1:Int):Option Bool:=(some (x0.1==x1))
theorem dd:PD PW I9:=cT GJ rfl ⟨rfl,rfl⟩ (by kernel_rfl)
def RL (x1 x2:Int) (b0:AF):Option AF:=(if 0<=x1 then (if x1<(b0.2.2.1.length:Int) then ((Bw b0.2.2.1 x1 (i64.wrap (x1+1))).bind fun y1=>((CH ((((b0.2.2.1.getD x1.toNat (0,0,0,0,0,([]:List AB))).2).2).1) (b0.1,b0.2.1,y1,b0.2.2.2)).bind fun y2=>(if (decide (y2.1>=0))=true then (if 0<=y2.1 then (if y2.1<(y2.2.2.1.length:Int) then ((N9 (y2.2.2.1.getD y2.1.toNat (0,0,false,false,false,false,([]:List Int),([]:List AB),0,0,0,0,(U,U,0),([]:List Int))) y2.2.1 (b0.2.2.1.getD x1.toNat (0,0,0,0,0,([]:List AB)))).bind fun y3=>(if 0<=y2.1 then (if y2.1<(y2.2.2.1.length:Int) then (let z4:List Y:=y2.2.2.1.set y2.1.toNat y3.1; ((Gw y3.2.1 y3.2.2 x2 (y2.2.1,z4,y2.2.2.2)).bind fun y5=>(some y5))) else none) else none)) else none) else none) else (some y2.2)))) else none) else none)
theorem fw:M3 RL KD:=cT Gt rfl ⟨rfl,rfl⟩ (by kernel_rfl)
def f7:=cG Yy (AH CG) (AH CG) kx
def wS:=kE 0 [(16,2)] [12,16,17,18] 6 f7 kx
def tK:St->Option (RT (BL.outs CG)):=lG Pt [(16,2)] [2,6,12,16,17,18,19,20,21] 6 (AH CG) wS
def wT:=kE 0 [(16,2)] [12,16,17,18] 5 f7 kx
def tL:St->Option (RT (BL.outs CG)):=lG Pt [(16,2)] [2,6,12,16,17,18,19,20,21] 5 (AH CG) wT
def E9 (x0:Int) (x1:List AN) (x2:List Int) (x3:Int) (x4 x5:Y) (x6:List AC) (x7:Y) (x8:AB) (x9:List AB):Option (Y×List AC×List AN×Bool):=tK ⟨[(2,.int .i64 x0),(6,.ptr 0 0),(12,.ptr 1 0),(16,.row 2),(17,.lst BG x1),(18,.ptr 3 0),(19,.ptr 4 0),(20,.lst .W x2),(21,.int .i64 x3)],[.var (Z.enc x4),.var (Z.enc x5),.rows 112 AL x6,.var (Z.enc x7),.var (AK.enc x8),.rows 45 AK x9]⟩
def Ru (x0:List (List Int)) (x1 x2:Int) (x3:List AN) (x4:Bool) (x5 x6:Y) (x7:List AC) (x8:Y) (x9:AB) (x10:List AB):Option (Y×List AC×List AN×Bool):=cG Pu (AH CG) (AH CG) kx ⟨[(1,.lst .S x0),(2,.int .i64 x1),(3,.int .i64 x2),(6,.ptr 0 0),(12,.ptr 1 0),(16,.row 2),(17,.lst BG x3),(18,.ptr 3 0),(19,.ptr 4 0),(130,.bool x4)],[.var (Z.enc x5),.var (Z.enc x6),.rows 112 AL x7,.var (Z.enc x8),.var (AK.enc x9),.rows 45 AK x10]⟩
def E_ (x0:Int) (x1:List AN) (x2:List Int) (x3:Int) (x4 x5:Y) (x6:List AC) (x7:Y) (x8:AB):Option (Y×List AC×List AN×Bool):=tL ⟨[(2,.int .i64 x0),(6,.ptr 0 0),(12,.ptr 1 0),(16,.row 2),(17,.lst BG x1),(18,.ptr 3 0),(19,.ptr 4 0),(20,.lst .W x2),(21,.int .i64 x3)],[.var (Z.enc x4),.var (Z.enc x5),.rows 112 AL x6,.var (Z.enc x7),.var (AK.enc x8)]⟩
def Rv (x0:List (List Int)) (x1 x2:Int) (x3:List AN) (x4:Bool) (x5 x6:Y) (x7:List AC) (x8:Y) (x9:AB):Option (Y×List AC×List AN×Bool):=cG Pu (AH CG) (AH CG) kx ⟨[(1,.lst .S x0),(2,.int .i64 x1),(3,.int .i64 x2),(6,.ptr 0 0),(12,.ptr 1 0),(16,.row 2),(17,.lst BG x3),(18,.ptr 3 0),(19,.ptr 4 0),(130,.bool x4)],[.var (Z.enc x5),.var (Z.enc x6),.rows 112 AL x7,.var (Z.enc x8),.var (AK.enc x9)]⟩
def DQ (x0:List (List Int)) (x1 x2:Int) (x3 x4:ByteArray) (x5:List AN) (x6:Bool) (x7 x8:Y) (x9:List AC):Option (Y×List AC×List AN×Bool):=cG Yz (AH CG) (AH CG) kx ⟨[(1,.lst .S x0),(2,.int .i64 x1),(3,.int .i64 x2),(4,.str x3),(5,.str x4),(6,.ptr 0 0),(12,.ptr 1 0),(16,.row 2),(17,.lst BG x5),(100,.bool x6)],[.var (Z.enc x7),.var (Z.enc x8),.rows 112 AL x9]⟩
def Rw (x0:Int) (x1:List AN) (x2:List Int) (x3:Int) (x4 x5:Y) (x6:List AC) (x7:Y) (x8:AB) (x9:List AB):Option (Y×List AC×List AN×Bool):=(if (decide (x3<(x2.length:Int)))=true then (if 0<=x3 then (if x3<(x2.length:Int) then (if ((x2.getD x3.toNat 0)==x4.1)=true then (E9 x0 x1 x2 (i64.wrap (x3+1)) x4 x5 x6 x7 x8 x9) else (if 0<=x3 then (if x3<(x2.length:Int) then (if (x0==1)=true then (if x6.length+([(5,x4.1,(x2.getD x3.toNat 0),x4.2.1,x7.2.2.2.2.2.2.2.2.1,([x8]:List AB))]:List AC).length<=68719476736 then (E9 x0 x1 x2 (i64.wrap (x3+1)) x4 x5 (x6++([(5,x4.1,(x2.getD x3.toNat 0),x4.2.1,x7.2.2.2.2.2.2.2.2.1,([x8]:List AB))]:List AC)) x7 x8 x9) else none) else (if x6.length+([(7,x4.1,(x2.getD x3.toNat 0),x4.2.1,x7.2.2.2.2.2.2.2.2.1,([]:List AB))]:List AC).length<=68719476736 then (E9 x0 x1 x2 (i64.wrap (x3+1)) x4 x5 (x6++([(7,x4.1,(x2.getD x3.toNat 0),x4.2.1,x7.2.2.2.2.2.2.2.2.1,([]:List AB))]:List AC)) x7 x8 x9) else none)) else none) else none)) else none) else none) else (some (x7,x6,x1,true)))
def cn (x0:List (List Int)) (x1 x2:Int) (x3:List AN) (x4:Bool) (x5 x6:Y) (x7:List AC) (x8:Y) (x9:AB) (x10:List AB):Option (Y×List AC×List AN×Bool):=(if 0<=(i64.wrap (x5.2.1-1)) then (if (i64.wrap (x5.2.1-1))<(x0.length:Int) then ((Hx (x0.getD (i64.wrap (x5.2.1-1)).toNat ([]:List Int)) x5.1).bind fun y8=>(if ((y8.length:Int)==0)=true then ((Hy (x8.1,x8.2.1,x8.2.2.1,x8.2.2.2.1,x8.2.2.2.2.1,x8.2.2.2.2.2.1,x8.2.2.2.2.2.2.1,x8.2.2.2.2.2.2.2.1,x8.2.2.2.2.2.2.2.2.1,x1,x2,x8.2.2.2.2.2.2.2.2.1,x9,y8)).bind fun y9=>(some (y9.2,x7,y9.1,true))) else (E9 x1 x3 (x0.getD (i64.wrap (x5.2.1-1)).toNat ([]:List Int)) 0 x5 x6 x7 (x8.1,x8.2.1,x8.2.2.1,x8.2.2.2.1,x8.2.2.2.2.1,x8.2.2.2.2.2.1,x8.2.2.2.2.2.2.1,x8.2.2.2.2.2.2.2.1,x8.2.2.2.2.2.2.2.2.1,x1,x2,x8.2.2.2.2.2.2.2.2.1,x9,y8) x9 x10))) else none) else none)
def Rx (x0:Int) (x1:List AN) (x2:List Int) (x3:Int) (x4 x5:Y) (x6:List AC) (x7:Y) (x8:AB):Option (Y×List AC×List AN×Bool):=(if (decide (x3<(x2.length:Int)))=true then (if 0<=x3 then (if x3<(x2.length:Int) then (if ((x2.getD x3.toNat 0)==x4.1)=true then (E_ x0 x1 x2 (i64.wrap (x3+1)) x4 x5 x6 x7 x8) else (if 0<=x3 then (if x3<(x2.length:Int) then (if (x0==1)=true then (if x6.length+([(5,x4.1,(x2.getD x3.toNat 0),x4.2.1,x7.2.2.2.2.2.2.2.2.1,([x8]:List AB))]:List AC).length<=68719476736 then (E_ x0 x1 x2 (i64.wrap (x3+1)) x4 x5 (x6++([(5,x4.1,(x2.getD x3.toNat 0),x4.2.1,x7.2.2.2.2.2.2.2.2.1,([x8]:List AB))]:List AC)) x7 x8) else none) else (if x6.length+([(7,x4.1,(x2.getD x3.toNat 0),x4.2.1,x7.2.2.2.2.2.2.2.2.1,([]:List AB))]:List AC).length<=68719476736 then (E_ x0 x1 x2 (i64.wrap (x3+1)) x4 x5 (x6++([(7,x4.1,(x2.getD x3.toNat 0),x4.2.1,x7.2.2.2.2.2.2.2.2.1,([]:List AB))]:List AC)) x7 x8) else none)) else none) else none)) else none) else none) else (some (x7,x6,x1,true)))
def cp (x0:List (List Int)) (x1 x2:Int) (x3:List AN) (x4:Bool) (x5 x6:Y) (x7:List AC) (x8:Y) (x9:AB):Option (Y×List AC×List AN×Bool):=(if 0<=(i64.wrap (x5.2.1-1)) then (if (i64.wrap (x5.2.1-1))<(x0.length:Int) then ((Hx (x0.getD (i64.wrap (x5.2.1-1)).toNat ([]:List Int)) x5.1).bind fun y10=>(if ((y10.length:Int)==0)=true then ((Hy (x8.1,x8.2.1,x8.2.2.1,x8.2.2.2.1,x8.2.2.2.2.1,x8.2.2.2.2.2.1,x8.2.2.2.2.2.2.1,x8.2.2.2.2.2.2.2.1,x8.2.2.2.2.2.2.2.2.1,x1,x2,x8.2.2.2.2.2.2.2.2.1,x9,y10)).bind fun y11=>(some (y11.2,x7,y11.1,true))) else (E_ x1 x3 (x0.getD (i64.wrap (x5.2.1-1)).toNat ([]:List Int)) 0 x5 x6 x7 (x8.1,x8.2.1,x8.2.2.1,x8.2.2.2.1,x8.2.2.2.2.1,x8.2.2.2.2.2.1,x8.2.2.2.2.2.2.1,x8.2.2.2.2.2.2.2.1,x8.2.2.2.2.2.2.2.2.1,x1,x2,x8.2.2.2.2.2.2.2.2.1,x9,y10) x9))) else none) else none)
def cq (x0:List (List Int)) (x1 x2:Int) (x3 x4:ByteArray) (x5:List AN) (x6:Bool) (x7 x8:Y) (x9:List AC):Option (Y×List AC×List AN×Bool):=((Dv x7).bind fun y5=>(if (x1==1)=true then ((KE x7.2.2.2.2.2.2.2.1 (x3,x4,(i64.wrap ((i64.wrap (1000*x7.2.1))+(i64.wrap (x7.2.2.2.2.2.2.2.2.1+1)))))).bind fun y6=>((QW y6 x3).bind fun y7=>(if (true != dy AK y7 (x3,x4,(i64.wrap ((i64.wrap (1000*x7.2.1))+(i64.wrap (x7.2.2.2.2.2.2.2.2.1+1))))))=true then (some ((0,0,false,false,false,false,([]:List Int),([]:List AB),0,0,0,0,(U,U,0),([]:List Int)),x9,x5,false)) else (Ru x0 x1 x2 x5 (true != dy AK y7 (x3,x4,(i64.wrap ((i64.wrap (1000*x7.2.1))+(i64.wrap (x7.2.2.2.2.2.2.2.2.1+1)))))) x7 x8 x9 (y5.1,y5.2.1,y5.2.2.1,y5.2.2.2.1,y5.2.2.2.2.1,y5.2.2.2.2.2.1,y5.2.2.2.2.2.2.1,y5.2.2.2.2.2.2.2.1,(i64.wrap (x7.2.2.2.2.2.2.2.2.1+1)),y5.2.2.2.2.2.2.2.2.2) (x3,x4,(i64.wrap ((i64.wrap (1000*x7.2.1))+(i64.wrap (x7.2.2.2.2.2.2.2.2.1+1))))) y6)))) else (Rv x0 x1 x2 x5 false x7 x8 x9 (y5.1,y5.2.1,y5.2.2.1,y5.2.2.2.1,y5.2.2.2.2.1,y5.2.2.2.2.2.1,y5.2.2.2.2.2.2.1,y5.2.2.2.2.2.2.2.1,(i64.wrap (x7.2.2.2.2.2.2.2.2.1+1)),y5.2.2.2.2.2.2.2.2.2) (x3,x4,(i64.wrap ((i64.wrap (1000*x7.2.1))+(i64.wrap (x7.2.2.2.2.2.2.2.2.1+1))))))))
def nx (x0:Y) (x1:List (List Int)) (x2 x3:Int) (x4 x5:ByteArray):Option (Y×List AC×List AN×Bool):=((Gd x0).bind fun y1=>(if (!y1)=true then (some ((0,0,false,false,false,false,([]:List Int),([]:List AB),0,0,0,0,(U,U,0),([]:List Int)),([]:List AC),([]:List AN),false)) else ((DK x1).bind fun y2=>(if (!y2)=true then (some ((0,0,false,false,false,false,([]:List Int),([]:List AB),0,0,0,0,(U,U,0),([]:List Int)),([]:List AC),([]:List AN),false)) else (if (!x0.2.2.2.2.2.1)=true then (some ((0,0,false,false,false,false,([]:List Int),([]:List AB),0,0,0,0,(U,U,0),([]:List Int)),([]:List AC),([]:List AN),false)) else (if (x0.2.2.2.2.2.2.2.2.2.1 != 0)=true then (some ((0,0,false,false,false,false,([]:List Int),([]:List AB),0,0,0,0,(U,U,0),([]:List Int)),([]:List AC),([]:List AN),false)) else (if (decide (x0.2.2.2.2.2.2.2.2.1>=900))=true then (some ((0,0,false,false,false,false,([]:List Int),([]:List AB),0,0,0,0,(U,U,0),([]:List Int)),([]:List AC),([]:List AN),false)) else (if (x2 != 1)=true then (if (x2 != 2)=true then (some ((0,0,false,false,false,false,([]:List Int),([]:List AB),0,0,0,0,(U,U,0),([]:List Int)),([]:List AC),([]:List AN),false)) else ((Ad x3 0 1000).bind fun y3=>(if (!y3)=true then (some ((0,0,false,false,false,false,([]:List Int),([]:List AB),0,0,0,0,(U,U,0),([]:List Int)),([]:List AC),([]:List AN),false)) else ((Ad (x4.size:Int) 1 12).bind fun y4=>(if (!y4)=true then (some ((0,0,false,false,false,false,([]:List Int),([]:List AB),0,0,0,0,(U,U,0),([]:List Int)),([]:List AC),([]:List AN),false)) else (if (decide ((x5.size:Int)>20))=true then (some ((0,0,false,false,false,false,([]:List Int),([]:List AB),0,0,0,0,(U,U,0),([]:List Int)),([]:List AC),([]:List AN),false)) else (if (x2==2)=true then (if (!(x5.toList==(⟨#[]⟩:ByteArray).toList))=true then (some ((0,0,false,false,false,false,([]:List Int),([]:List AB),0,0,0,0,(U,U,0),([]:List Int)),([]:List AC),([]:List AN),false)) else (if (decide (x0.2.1>(x1.length:Int)))=true then (some ((0,0,false,false,false,false,([]:List Int),([]:List AB),0,0,0,0,(U,U,0),([]:List Int)),([]:List AC),([]:List AN),false)) else (if 0<=(i64.wrap (x0.2.1-1)) then (if (i64.wrap (x0.2.1-1))<(x1.length:Int) then (if 0<=(0:Int) then (if 0<((x1.getD (i64.wrap (x0.2.1-1)).toNat ([]:List Int)).length:Int) then (if (((x1.getD (i64.wrap (x0.2.1-1)).toNat ([]:List Int)).getD (0:Int).toNat 0) != x0.1)=true then (some ((0,0,false,false,false,false,([]:List Int),([]:List AB),0,0,0,0,(U,U,0),([]:List Int)),([]:List AC),([]:List AN),false)) else (DQ x1 x2 x3 x4 x5 ([]:List AN) (((x1.getD (i64.wrap (x0.2.1-1)).toNat ([]:List Int)).getD (0:Int).toNat 0) != x0.1) x0 (0,0,false,false,false,false,([]:List Int),([]:List AB),0,0,0,0,(U,U,0),([]:List Int)) ([]:List AC))) else none) else none) else none) else none))) else (if (decide (x0.2.1>(x1.length:Int)))=true then (some ((0,0,false,false,false,false,([]:List Int),([]:List AB),0,0,0,0,(U,U,0),([]:List Int)),([]:List AC),([]:List AN),false)) else (if 0<=(i64.wrap (x0.2.1-1)) then (if (i64.wrap (x0.2.1-1))<(x1.length:Int) then (if 0<=(0:Int) then (if 0<((x1.getD (i64.wrap (x0.2.1-1)).toNat ([]:List Int)).length:Int) then (if (((x1.getD (i64.wrap (x0.2.1-1)).toNat ([]:List Int)).getD (0:Int).toNat 0) != x0.1)=true then (some ((0,0,false,false,false,false,([]:List Int),([]:List AB),0,0,0,0,(U,U,0),([]:List Int)),([]:List AC),([]:List AN),false)) else (DQ x1 x2 x3 x4 x5 ([]:List AN) (((x1.getD (i64.wrap (x0.2.1-1)).toNat ([]:List Int)).getD (0:Int).toNat 0) != x0.1) x0 (0,0,false,false,false,false,([]:List Int),([]:List AB),0,0,0,0,(U,U,0),([]:List Int)) ([]:List AC))) else none) else none) else none) else none))))))))) else ((Ad x3 0 1000).bind fun y12=>(if (!y12)=true then (some ((0,0,false,false,false,false,([]:List Int),([]:List AB),0,0,0,0,(U,U,0),([]:List Int)),([]:List AC),([]:List AN),false)) else ((Ad (x4.size:Int) 1 12).bind fun y13=>(if (!y13)=true then (some ((0,0,false,false,false,false,([]:List Int),([]:List AB),0,0,0,0,(U,U,0),([]:List Int)),([]:List AC),([]:List AN),false)) else (if (decide ((x5.size:Int)>20))=true then (some ((0,0,false,false,false,false,([]:List Int),([]:List AB),0,0,0,0,(U,U,0),([]:List Int)),([]:List AC),([]:List AN),false)) else (if (x2==2)=true then (if (!(x5.toList==(⟨#[]⟩:ByteArray).toList))=true then (some ((0,0,false,false,false,false,([]:List Int),([]:List AB),0,0,0,0,(U,U,0),([]:List Int)),([]:List AC),([]:List AN),false)) else (if (decide (x0.2.1>(x1.length:Int)))=true then (some ((0,0,false,false,false,false,([]:List Int),([]:List AB),0,0,0,0,(U,U,0),([]:List Int)),([]:List AC),([]:List AN),false)) else (if 0<=(i64.wrap (x0.2.1-1)) then (if (i64.wrap (x0.2.1-1))<(x1.length:Int) then (if 0<=(0:Int) then (if 0<((x1.getD (i64.wrap (x0.2.1-1)).toNat ([]:List Int)).length:Int) then (if (((x1.getD (i64.wrap (x0.2.1-1)).toNat ([]:List Int)).getD (0:Int).toNat 0) != x0.1)=true then (some ((0,0,false,false,false,false,([]:List Int),([]:List AB),0,0,0,0,(U,U,0),([]:List Int)),([]:List AC),([]:List AN),false)) else (DQ x1 x2 x3 x4 x5 ([]:List AN) (((x1.getD (i64.wrap (x0.2.1-1)).toNat ([]:List Int)).getD (0:Int).toNat 0) != x0.1) x0 (0,0,false,false,false,false,([]:List Int),([]:List AB),0,0,0,0,(U,U,0),([]:List Int)) ([]:List AC))) else none) else none) else none) else none))) else (if (decide (x0.2.1>(x1.length:Int)))=true then (some ((0,0,false,false,false,false,([]:List Int),([]:List AB),0,0,0,0,(U,U,0),([]:List Int)),([]:List AC),([]:List AN),false)) else (if 0<=(i64.wrap (x0.2.1-1)) then (if (i64.wrap (x0.2.1-1))<(x1.length:Int) then (if 0<=(0:Int) then (if 0<((x1.getD (i64.wrap (x0.2.1-1)).toNat ([]:List Int)).length:Int) then (if (((x1.getD (i64.wrap (x0.2.1-1)).toNat ([]:List Int)).getD (0:Int).toNat 0) != x0.1)=true then (some ((0,0,false,false,false,false,([]:List Int),([]:List AB),0,0,0,0,(U,U,0),([]:List Int)),([]:List AC),([]:List AN),false)) else (DQ x1 x2 x3 x4 x5 ([]:List AN) (((x1.getD (i64.wrap (x0.2.1-1)).toNat ([]:List Int)).getD (0:Int).toNat 0) != x0.1) x0 (0,0,false,false,false,false,([]:List Int),([]:List AB),0,0,0,0,(U,U,0),([]:List Int)) ([]:List AC))) else none) else none) else none) else none))))))))))))))))
theorem cr:ADV Rw E9:=lS (by kernel_rfl)
theorem tM:AHq cn Ru:=jS (by kernel_rfl)
theorem ct:Le9 Rx E_:=lS (by kernel_rfl)
theorem tN:ADV cp Rv:=jS (by kernel_rfl)
theorem tO:ADV cq DQ:=jS (by kernel_rfl)
theorem AAP:Le6 nx ag:=cT CG rfl ⟨rfl,rfl⟩ (by kernel_rfl)

def wU:=cG bp (AH DP) (AH DP) kx
def wV:=kE 0 [(9,2)] [6,9,11] 5 wU kx
def tP:St->Option (RT (BL.outs DP)):=lG bo [(9,2)] [1,2,3,6,9,11,13] 5 (AH DP) wV
def Gf (x0:List (List Int)) (x1 x2:Int) (x3 x4:Y) (x5:List AC) (x6:List AB) (x7:Y):Option (Y×List AC×Bool):=tP ⟨[(1,.lst .S x0),(2,.int .i64 x1),(3,.ptr 0 0),(6,.ptr 1 0),(9,.row 2),(11,.ptr 4 0),(13,.int .i64 x2)],[.var (Z.enc x3),.var (Z.enc x4),.rows 112 AL x5,.frz AK x6,.var (Z.enc x7)]⟩
def Iu (x0:List (List Int)) (x1:Int) (x2:Bool) (x3 x4:Y) (x5:List AC):Option (Y×List AC×Bool):=cG br (AH DP) (AH DP) kx ⟨[(1,.lst .S x0),(2,.int .i64 x1),(3,.ptr 0 0),(6,.ptr 1 0),(9,.row 2),(10,.bool x2)],[.var (Z.enc x3),.var (Z.enc x4),.rows 112 AL x5]⟩
def cv (x0:List (List Int)) (x1:Int) (x2:Bool) (x3 x4:Y) (x5:List AC):Option (Y×List AC×Bool):=cG bt (AH DP) (AH DP) kx ⟨[(1,.lst .S x0),(2,.int .i64 x1),(3,.ptr 0 0),(6,.ptr 1 0),(9,.row 2),(48,.bool x2)],[.var (Z.enc x3),.var (Z.enc x4),.rows 112 AL x5]⟩
def Ry (x0:List (List Int)) (x1 x2:Int) (x3 x4:Y) (x5:List AC) (x6:List AB) (x7:Y):Option (Y×List AC×Bool):=(if 0<=(i64.wrap (x1-2)) then (if (i64.wrap (x1-2))<(x0.length:Int) then (if (decide (x2<((x0.getD (i64.wrap (x1-2)).toNat ([]:List Int)).length:Int)))=true then (if 0<=(i64.wrap (x1-2)) then (if (i64.wrap (x1-2))<(x0.length:Int) then (if 0<=x2 then (if x2<((x0.getD (i64.wrap (x1-2)).toNat ([]:List Int)).length:Int) then (if (((x0.getD (i64.wrap (x1-2)).toNat ([]:List Int)).getD x2.toNat 0) != x3.1)=true then (if x5.length+([(1,x3.1,((x0.getD (i64.wrap (x1-2)).toNat ([]:List Int)).getD x2.toNat 0),x1,0,([]:List AB))]:List AC).length<=68719476736 then (Gf x0 x1 (i64.wrap (x2+1)) x3 x4 (x5++([(1,x3.1,((x0.getD (i64.wrap (x1-2)).toNat ([]:List Int)).getD x2.toNat 0),x1,0,([]:List AB))]:List AC)) x6 x7) else none) else (Gf x0 x1 (i64.wrap (x2+1)) x3 x4 x5 x6 x7)) else none) else none) else none) else none) else ((Dv x7).bind fun y7=>(some (y7,x5,true)))) else none) else none)
def cw (x0:List (List Int)) (x1:Int) (x2:Bool) (x3 x4:Y) (x5:List AC):Option (Y×List AC×Bool):=(if ([]:List AB).length+x3.2.2.2.2.2.2.2.1.length<=68719476736 then (if x2=true then (if 0<=(i64.wrap (x1-1)) then (if (i64.wrap (x1-1))<(x0.length:Int) then ((QX (x0.getD (i64.wrap (x1-1)).toNat ([]:List Int)) x3.2.2.2.2.2.2.2.1 (x3.1,x1,false,false,true,false,([]:List Int),(([]:List AB)++x3.2.2.2.2.2.2.2.1),0,0,0,0,(U,U,0),([]:List Int))).bind fun y5=>((Dv y5.2).bind fun y6=>(some (y6,y5.1,true)))) else none) else none) else (Gf x0 x1 0 x3 x4 x5 (([]:List AB)++x3.2.2.2.2.2.2.2.1) (x3.1,x1,false,false,true,false,([]:List Int),(([]:List AB)++x3.2.2.2.2.2.2.2.1),0,0,0,0,(U,U,0),([]:List Int)))) else none)
def cz (x0:List (List Int)) (x1:Int) (x2:Bool) (x3 x4:Y) (x5:List AC):Option (Y×List AC×Bool):=(if x3.2.2.2.1=true then (if (x3.2.1==(i64.wrap (x1-1)))=true then (if 0<=(i64.wrap (x1-2)) then (if (i64.wrap (x1-2))<(x0.length:Int) then ((Ec (x0.getD (i64.wrap (x1-2)).toNat ([]:List Int)) x3.1).bind fun y4=>(Iu x0 x1 y4 x3 x4 x5)) else none) else none) else (Iu x0 x1 false x3 x4 x5)) else (Iu x0 x1 false x3 x4 x5))
def ny (x0:Y) (x1:List (List Int)) (x2:Int):Option (Y×List AC×Bool):=((Gd x0).bind fun y1=>(if (!y1)=true then (some ((0,0,false,false,false,false,([]:List Int),([]:List AB),0,0,0,0,(U,U,0),([]:List Int)),([]:List AC),false)) else ((DK x1).bind fun y2=>(if (!y2)=true then (some ((0,0,false,false,false,false,([]:List Int),([]:List AB),0,0,0,0,(U,U,0),([]:List Int)),([]:List AC),false)) else ((Ad x2 2 (x1.length:Int)).bind fun y3=>(if (!y3)=true then (some ((0,0,false,false,false,false,([]:List Int),([]:List AB),0,0,0,0,(U,U,0),([]:List Int)),([]:List AC),false)) else (if (decide (x2<=x0.2.1))=true then (some ((0,0,false,false,false,false,([]:List Int),([]:List AB),0,0,0,0,(U,U,0),([]:List Int)),([]:List AC),false)) else (if 0<=(i64.wrap (x2-1)) then (if (i64.wrap (x2-1))<(x1.length:Int) then (if 0<=(0:Int) then (if 0<((x1.getD (i64.wrap (x2-1)).toNat ([]:List Int)).length:Int) then (if (((x1.getD (i64.wrap (x2-1)).toNat ([]:List Int)).getD (0:Int).toNat 0) != x0.1)=true then (some ((0,0,false,false,false,false,([]:List Int),([]:List AB),0,0,0,0,(U,U,0),([]:List Int)),([]:List AC),false)) else (cv x1 x2 (((x1.getD (i64.wrap (x2-1)).toNat ([]:List Int)).getD (0:Int).toNat 0) != x0.1) x0 (0,0,false,false,false,false,([]:List Int),([]:List AB),0,0,0,0,(U,U,0),([]:List Int)) ([]:List AC))) else none) else none) else none) else none))))))))
theorem c_:Le8 Ry Gf:=lS (by kernel_rfl)
theorem tQ:Le6 cw Iu:=jS (by kernel_rfl)
theorem tR:Le6 cz cv:=jS (by kernel_rfl)
theorem AAQ:M3 ny ah:=cT DP rfl ⟨rfl,rfl⟩ (by kernel_rfl)
def qf:=cG WN (AH B4) (AH B4) kx
def qg:=cG Nu (AH B4) (AH B4) kx
def HB (x0:List AC) (x1:List AN) (x2:Bool) (x3:Y) (x4:AC) (x5 x6:Y):Option (Y×List AC×List AN):=cG WM qf (AH B4) kx ⟨[(3,.ptr 0 0),(5,.ptr 1 0),(6,.ptr 2 0),(9,.ptr 3 0),(10,.lst AL x0),(11,.lst BG x1),(146,.bool x2)],[.var (Z.enc x3),.var (AL.enc x4),.var (Z.enc x5),.var (Z.enc x6)]⟩
def Oo (x0:List (List Int)) (x1:List AC) (x2:List AN) (x3:Bool) (x4:Y) (x5:AC) (x6 x7:Y):Option (Y×List AC×List AN):=cG Nu (AH B4) (AH B4) kx ⟨[(1,.lst .S x0),(3,.ptr 0 0),(5,.ptr 1 0),(6,.ptr 2 0),(9,.ptr 3 0),(10,.lst AL x1),(11,.lst BG x2),(105,.bool x3)],[.var (Z.enc x4),.var (AL.enc x5),.var (Z.enc x6),.var (Z.enc x7)]⟩
def E3 (x0:List (List Int)) (x1:List AC) (x2:List AN) (x3:Bool) (x4:Y) (x5:AC) (x6 x7:Y):Option (Y×List AC×List AN):=cG WK qg (AH B4) kx ⟨[(1,.lst .S x0),(3,.ptr 0 0),(5,.ptr 1 0),(6,.ptr 2 0),(9,.ptr 3 0),(10,.lst AL x1),(11,.lst BG x2),(105,.bool x3)],[.var (Z.enc x4),.var (AL.enc x5),.var (Z.enc x6),.var (Z.enc x7)]⟩
def XR (x0:List (List Int)) (x1:List AC) (x2:List AN) (x3:Bool) (x4:Y) (x5:AC) (x6 x7:Y):Option (Y×List AC×List AN):=cG WO (AH B4) (AH B4) kx ⟨[(1,.lst .S x0),(3,.ptr 0 0),(5,.ptr 1 0),(6,.ptr 2 0),(9,.ptr 3 0),(10,.lst AL x1),(11,.lst BG x2),(59,.bool x3)],[.var (Z.enc x4),.var (AL.enc x5),.var (Z.enc x6),.var (Z.enc x7)]⟩
def XS (x0:List AC) (x1:List AN) (x2:Bool) (x3:Y) (x4:AC) (x5 x6:Y):Option (Y×List AC×List AN):=(if x2=true then (if ([]:List AB).length+x4.2.2.2.2.2.length<=68719476736 then ((E8 x3 x4 4).bind fun y9=>(some ((x3.1,x4.2.2.2.1,false,true,false,false,([]:List Int),(([]:List AB)++x4.2.2.2.2.2),0,0,0,0,(U,U,0),([]:List Int)),y9,x1))) else none) else (some (x6,x0,x1)))
def XT (x0:List (List Int)) (x1:List AC) (x2:List AN) (x3:Bool) (x4:Y) (x5:AC) (x6 x7:Y):Option (Y×List AC×List AN):=(if 0<=(i64.wrap (x5.2.2.2.1-1)) then (if (i64.wrap (x5.2.2.2.1-1))<(x0.length:Int) then (if (x5.1==3)=true then ((Ec (x0.getD (i64.wrap (x5.2.2.2.1-1)).toNat ([]:List Int)) x4.1).bind fun y8=>(if y8=true then (if 0<=(0:Int) then (if 0<((x0.getD (i64.wrap (x5.2.2.2.1-1)).toNat ([]:List Int)).length:Int) then (HB x1 x2 (((x0.getD (i64.wrap (x5.2.2.2.1-1)).toNat ([]:List Int)).getD (0:Int).toNat 0) != x4.1) x4 x5 x6 x7) else none) else none) else (HB x1 x2 false x4 x5 x6 x7))) else (HB x1 x2 false x4 x5 x6 x7)) else none) else none)
def XU (x0:List (List Int)) (x1:List AC) (x2:List AN) (x3:Bool) (x4:Y) (x5:AC) (x6 x7:Y):Option (Y×List AC×List AN):=(if x3=true then ((N_ x4 x5.2.2.2.1).bind fun y7=>(if ([]:List AB).length+x4.2.2.2.2.2.2.2.1.length<=68719476736 then (some (y7,([(2,x4.1,x5.2.1,x5.2.2.2.1,0,(([]:List AB)++x4.2.2.2.2.2.2.2.1))]:List AC),x2)) else none)) else (Oo x0 x1 x2 x3 x4 x5 x6 x7))
def XV (x0:List (List Int)) (x1:List AC) (x2:List AN) (x3:Bool) (x4:Y) (x5:AC) (x6 x7:Y):Option (Y×List AC×List AN):=(if (x5.2.2.2.1==x4.2.1)=true then (if 0<=(i64.wrap (x4.2.1-1)) then (if (i64.wrap (x4.2.1-1))<(x0.length:Int) then ((X8 x4 (x0.getD (i64.wrap (x4.2.1-1)).toNat ([]:List Int)) x5).bind fun y5=>(some (y5.1,y5.2.1,y5.2.2))) else none) else none) else (if (x5.1==1)=true then (if (x5.2.2.2.1==(i64.wrap (x4.2.1+1)))=true then (if x4.2.2.2.1=true then (if 0<=(i64.wrap (x4.2.1-1)) then (if (i64.wrap (x4.2.1-1))<(x0.length:Int) then ((Ec (x0.getD (i64.wrap (x4.2.1-1)).toNat ([]:List Int)) x4.1).bind fun y6=>(E3 x0 x1 x2 y6 x4 x5 x6 x7)) else none) else none) else (E3 x0 x1 x2 false x4 x5 x6 x7)) else (E3 x0 x1 x2 false x4 x5 x6 x7)) else (E3 x0 x1 x2 false x4 x5 x6 x7)))
def f8 (x0:Y) (x1:List (List Int)) (x2:AC):Option (Y×List AC×List AN):=((Dv x0).bind fun y1=>((Gd x0).bind fun y2=>(if (!y2)=false then ((DK x1).bind fun y3=>(if (!y3)=false then ((ak x2).bind fun y4=>(if (!y4)=false then (if (x2.2.2.1 != x0.1)=false then (if (decide (x2.2.2.2.1<x0.2.1))=false then (if (decide (x2.2.2.2.1>(x1.length:Int)))=false then (if (decide (x0.2.1>(x1.length:Int)))=true then (some (y1,([]:List AC),([]:List AN))) else (XR x1 ([]:List AC) ([]:List AN) (decide (x0.2.1>(x1.length:Int))) x0 x2 (0,0,false,false,false,false,([]:List Int),([]:List AB),0,0,0,0,(U,U,0),([]:List Int)) y1)) else (some (y1,([]:List AC),([]:List AN)))) else (some (y1,([]:List AC),([]:List AN)))) else (some (y1,([]:List AC),([]:List AN)))) else (some (y1,([]:List AC),([]:List AN))))) else (some (y1,([]:List AC),([]:List AN))))) else (some (y1,([]:List AC),([]:List AN))))))
theorem nz:Le7 XS HB:=jS (by kernel_rfl)
theorem n5:Le8 XT Oo:=jS (by kernel_rfl)
theorem n6:Le8 XU E3:=jS (by kernel_rfl)
theorem n7:Le8 XV XR:=jS (by kernel_rfl)
theorem wW:M3 f8 UK:=cT B4 rfl ⟨rfl,rfl⟩ (by kernel_rfl)
def HC (x0 x1:ByteArray):Option Bool:=(if (decide ((x0.size:Int)>=(x1.size:Int)))=true then (if 0<=(0:Int) then (if 0<=(x1.size:Int) then (if (x1.size:Int)<=(x0.size:Int) then (some ((x0.extract (0:Int).toNat (x1.size:Int).toNat).toList==x1.toList)) else none) else none) else none) else (some false))
theorem Oq:PD HC Dx:=cT Cm rfl ⟨rfl,rfl⟩ (by kernel_rfl)
def tS:=cG bz (AH Fe) (AH Fe) kx
def tT:=kE 0 [(4,0)] [4] 1 tS kx
def qh:St->Option (RT (BL.outs Fe)):=lG bw [(4,0)] [4,10,11,12] 1 (AH Fe) tT
def Ko (x0:List ByteArray) (x1 x2:Int) (x3:List Int):Option (List Int×Bool):=qh ⟨[(4,.row 0),(10,.lst .str x0),(11,.int .i64 x1),(12,.int .i64 x2)],[.rows 3 .W x3]⟩
def P_ (x0:List ByteArray) (x1 x2:Int) (x3:List Int):Option (List Int×Bool):=(if (decide (x2<x1))=true then (if 0<=x2 then (if x2<(x0.length:Int) then ((IZ (x0.getD x2.toNat U)).bind fun y2=>(if (!y2.2)=true then (some ([],false)) else (if x3.length+([y2.1]:List Int).length<=68719476736 then (Ko x0 x1 (i64.wrap (x2+1)) (x3++([y2.1]:List Int))) else none))) else none) else none) else (some (x3,true)))
def jR (x0:ByteArray):Option (List Int×Bool):=((Ge x0 (⟨#[44]⟩:ByteArray)).bind fun y1=>(Ko y1 (y1.length:Int) 0 ([]:List Int)))
theorem Zb:X1 P_ Ko:=lS (by kernel_rfl)
theorem yO:LZ jR X6:=cT Fe rfl ⟨rfl,rfl⟩ (by kernel_rfl)
def jT (x0:ByteArray):Option (Int×Int):=(if (x0.toList==(⟨#[112,117,116]⟩:ByteArray).toList)=true then (some (1,4)) else (if (x0.toList==(⟨#[103,101,116]⟩:ByteArray).toList)=true then (some (1,3)) else (if (x0.toList==(⟨#[100,101,108,105,118,101,114]⟩:ByteArray).toList)=true then (some (2,2)) else (if (x0.toList==(⟨#[100,114,111,112]⟩:ByteArray).toList)=true then (some (3,2)) else (if (x0.toList==(⟨#[99,111,112,121]⟩:ByteArray).toList)=true then (some (4,2)) else (if (x0.toList==(⟨#[97,100,111,112,116]⟩:ByteArray).toList)=true then (some (5,2)) else (if (x0.toList==(⟨#[102,97,108,108]⟩:ByteArray).toList)=true then (some (6,2)) else (some (0,0)))))))))
theorem yP:LZ jT X7:=cT QT rfl ⟨rfl,rfl⟩ (by kernel_rfl)
def f9:=cG I8 (AH Bc) (AH Bc) kx
def f_:=kE 0 [] [0,4] 0 f9 kx
def de:St->Option (RT (BL.outs Bc)):=lG Qv [] [0,4,5] 0 (AH Bc) f_
def PX (x0:ByteArray) (x1:Int):Option (Int×Bool):=cG I8 (AH Bc) (AH Bc) kx ⟨[(0,.str x0),(4,.int .i64 x1)],[]⟩
def GN (x0:ByteArray) (x1 x2:Int):Option (Int×Bool):=de ⟨[(0,.str x0),(4,.int .i64 x1),(5,.int .i64 x2)],[]⟩
def PY (x0:ByteArray) (x1:Bool):Option (Int×Bool):=cG PJ (AH Bc) (AH Bc) kx ⟨[(0,.str x0),(13,.bool x1)],[]⟩
def PZ (x0:ByteArray) (x1:Int):Option (Int×Bool):=(if (decide (x1>1000000000))=false then ((Hv x1).bind fun y1=>(if (!(y1.toList==x0.toList))=true then (some (0,false)) else (some (x1,true)))) else (some (0,false)))
def JG (x0:ByteArray) (x1 x2:Int):Option (Int×Bool):=(if (decide (x2<(x0.size:Int)))=true then (if 0<=x2 then (if x2<(x0.size:Int) then (if (decide (((x0.data.toList.getD x2.toNat 0).toNat:Int)<48))=false then (if 0<=x2 then (if x2<(x0.size:Int) then (if (decide (((x0.data.toList.getD x2.toNat 0).toNat:Int)>57))=true then (some (0,false)) else (if 0<=x2 then (if x2<(x0.size:Int) then (GN x0 (i64.wrap ((i64.wrap (x1*10))+(i64.wrap (IntKind.u8.wrap (((x0.data.toList.getD x2.toNat 0).toNat:Int)-48))))) (i64.wrap (x2+1))) else none) else none)) else none) else none) else (some (0,false))) else none) else none) else (PX x0 x1))
def Pa (x0:ByteArray) (x1:Bool):Option (Int×Bool):=(GN x0 0 0)
def U3 (x0:ByteArray):Option (Int×Bool):=(if ((x0.size:Int)==0)=false then (if (decide ((x0.size:Int)>10))=true then (some (0,false)) else (PY x0 (decide ((x0.size:Int)>10)))) else (some (0,false)))
theorem df:PD PZ PX:=jS (by kernel_rfl)
theorem Pb:M3 JG GN:=lS (by kernel_rfl)
theorem dg:PD Pa PY:=jS (by kernel_rfl)
theorem lB:LZ U3 IZ:=cT Bc rfl ⟨rfl,rfl⟩ (by kernel_rfl)
def XW (x1:List Int) (b0:AM):Option (Int×AM):=((CM (x1.length:Int) b0).bind fun y1=>(if 0<=y1.1 then (if y1.1<(x1.length:Int) then (some ((x1.getD y1.1.toNat 0),y1.2)) else none) else none))
theorem n8:PD XW JO:=cT JM rfl ⟨rfl,rfl⟩ (by kernel_rfl)
def Mr (x0:Bool) (x1:Y):Option Bool:=cG WP (AH Ga) (AH Ga) kx ⟨[(1,.ptr 0 0),(30,.bool x0)],[.var (Z.enc x1)]⟩
def U4 (x0:Bool) (x1:Y):Option Bool:=(if x1.2.2.2.2.2.1=true then (if (!x1.2.2.2.1)=false then (if (!x1.2.2.2.2.1)=false then (if (decide ((x1.2.2.2.2.2.2.1.length:Int)>0))=false then (if x1.2.2.1=true then (if x1.2.2.2.1=false then (if x1.2.2.2.2.1=true then (some false) else ((De x1).bind fun y6=>(some y6.1))) else (some false)) else ((De x1).bind fun y7=>(some y7.1))) else (some false)) else (some false)) else (some false)) else (if x1.2.2.1=true then (if x1.2.2.2.1=false then (if x1.2.2.2.2.1=true then (some false) else ((De x1).bind fun y8=>(some y8.1))) else (some false)) else ((De x1).bind fun y9=>(some y9.1))))
def dA (x0:Y):Option Bool:=((Fn x0.1).bind fun y1=>(if (!y1)=false then ((Av x0.2.1 1 9).bind fun y2=>(if (!y2)=false then ((Ic x0.2.2.2.2.2.2.1 1 6).bind fun y3=>(if (!y3)=false then ((F5 x0.2.2.2.2.2.2.2.1).bind fun y4=>(if (!y4)=false then ((Av x0.2.2.2.2.2.2.2.2.1 0 900).bind fun y5=>(if (!y5)=true then (some false) else (Mr (!y5) x0))) else (some false))) else (some false))) else (some false))) else (some false)))
theorem lC:PD U4 Mr:=jS (by kernel_rfl)
theorem tU:LZ dA Gc:=cT Ga rfl ⟨rfl,rfl⟩ (by kernel_rfl)
def Kx (x0:List (List Int)) (x1:Bool) (x2:Y):Option (Bool×Y):=cG Lc (AH C5) (AH C5) kx ⟨[(0,.ptr 0 0),(1,.lst .S x0),(33,.bool x1)],[.var (Z.enc x2)]⟩
def Ky (x0:List (List Int)) (x1:Bool) (x2:Y):Option (Bool×Y):=((DL x0).bind fun y1=>(if y1=true then (if 0<=(i64.wrap (x2.2.1-1)) then (if (i64.wrap (x2.2.1-1))<(x0.length:Int) then (if 0<=(0:Int) then (if 0<((x0.getD (i64.wrap (x2.2.1-1)).toNat ([]:List Int)).length:Int) then (some ((((x0.getD (i64.wrap (x2.2.1-1)).toNat ([]:List Int)).getD (0:Int).toNat 0)==x2.1),x2)) else none) else none) else none) else none) else (some (false,x2))))
def Ot (x1:List (List Int)) (b0:Y):Option (Bool×Y):=(if (!b0.2.2.2.2.2.1)=false then (if (b0.2.2.2.2.2.2.2.2.2.1 != 0)=false then (if (b0.2.2.2.2.2.2.2.2.1==900)=false then (if (decide (b0.2.1>(x1.length:Int)))=true then (some (false,b0)) else (Kx x1 (decide (b0.2.1>(x1.length:Int))) b0)) else (some (false,b0))) else (some (false,b0))) else (some (false,b0)))
theorem VP:M3 Ky Kx:=jS (by kernel_rfl)
theorem au:PD Ot Ia:=cT C5 rfl ⟨rfl,rfl⟩ (by kernel_rfl)
def tV:=cG b7 (AH Ff) (AH Ff) kx
def tW:=kE 0 [] [4] 1 tV kx
def qi:St->Option (RT (BL.outs Ff)):=lG b6 [] [1,4,7,8,9] 1 (AH Ff) tW
def Kp (x0:ByteArray) (x1:List AB) (x2 x3:Int) (x4:AB):Option AB:=qi ⟨[(1,.str x0),(4,.ptr 0 0),(7,.lst AK x1),(8,.int .i64 x2),(9,.int .i64 x3)],[.var (AK.enc x4)]⟩
def QA (x0:ByteArray) (x1:List AB) (x2 x3:Int) (x4:AB):Option AB:=(if (decide (x3<x2))=true then (if 0<=x3 then (if x3<(x1.length:Int) then (if (((x1.getD x3.toNat (U,U,0)).1).toList==x0.toList)=true then (some (x1.getD x3.toNat (U,U,0))) else (Kp x0 x1 x2 (i64.wrap (x3+1)) x4)) else none) else none) else (some (U,U,0)))
def jU (x0:List AB) (x1:ByteArray):Option AB:=(Kp x1 x0 (x0.length:Int) 0 (U,U,0))
theorem Zc:rq QA Kp:=lS (by kernel_rfl)
theorem yQ:PD jU QV:=cT Ff rfl ⟨rfl,rfl⟩ (by kernel_rfl)
def ax:=cG Nx (AH CR) (AH CR) kx
def ay:=kE 0 [(5,1)] [5] 2 ax kx
def Zd:St->Option (RT (BL.outs CR)):=lG Nw [(5,1)] [0,5,8,9,10] 2 (AH CR) ay
def Df (x0:List Int) (x1 x2:Int) (x3:Y) (x4:List Int):Option (List Int×Y):=Zd ⟨[(0,.ptr 0 0),(5,.row 1),(8,.lst .W x0),(9,.int .i64 x1),(10,.int .i64 x2)],[.var (Z.enc x3),.rows 3 .W x4]⟩
def H6 (x0:List Int) (x1 x2:Int) (x3:Y) (x4:List Int):Option (List Int×Y):=(if (decide (x2<x1))=true then (if 0<=x2 then (if x2<(x0.length:Int) then (if ((x0.getD x2.toNat 0) != x3.1)=true then (if x4.length+([(x0.getD x2.toNat 0)]:List Int).length<=68719476736 then (Df x0 x1 (i64.wrap (x2+1)) x3 (x4++([(x0.getD x2.toNat 0)]:List Int))) else none) else (Df x0 x1 (i64.wrap (x2+1)) x3 x4)) else none) else none) else (some (x4,x3)))
def RM (x1:List Int) (b0:Y):Option (List Int×Y):=(Df x1 (x1.length:Int) 0 b0 ([]:List Int))
theorem NA:rq H6 Df:=lS (by kernel_rfl)
theorem gA:PD RM CS:=cT CR rfl ⟨rfl,rfl⟩ (by kernel_rfl)
def Pc (b0:List Int):Option (List Int):=((Ro (IntKind.u64.wrap (b0.length:Int))).bind fun y1=>((FW 0 (b0.length:Int) y1 b0).bind fun y2=>(some y2)))
theorem dh:LZ Pc DI:=cT GK rfl ⟨rfl,rfl⟩ (by kernel_rfl)
def JH (x0:Y) (x1:zm):Option (List AN×Y):=cG Qw (AH ER) (AH ER) kx ⟨[(0,.ptr 0 0),(3,.ptr 1 0)],[.var (Z.enc x0),.var (NT.enc x1)]⟩
def JI (x0:Y) (x1:zm):Option (List AN×Y):=(some (([(x1.2.1,x0.2.1,x1.2.2.1,x1.2.2.2.1)]:List AN),(x0.1,x0.2.1,x0.2.2.1,x0.2.2.2.1,x0.2.2.2.2.1,x0.2.2.2.2.2.1,x0.2.2.2.2.2.2.1,x0.2.2.2.2.2.2.2.1,x0.2.2.2.2.2.2.2.2.1,0,0,0,(U,U,0),([]:List Int))))
def U5 (b0:Y):Option (List AN×Y):=(if (b0.2.2.2.2.2.2.2.2.2.1==1)=true then ((OA b0.2.2.2.2.2.2.2.1 b0.2.2.2.2.2.2.2.2.2.2.2.2.1).bind fun y1=>(JH (b0.1,b0.2.1,b0.2.2.1,b0.2.2.2.1,b0.2.2.2.2.1,b0.2.2.2.2.2.1,b0.2.2.2.2.2.2.1,y1,b0.2.2.2.2.2.2.2.2) b0.2.2.2.2.2.2.2.2.2)) else ((QV b0.2.2.2.2.2.2.2.1 b0.2.2.2.2.2.2.2.2.2.2.2.2.1.1).bind fun y2=>(JH b0 (b0.2.2.2.2.2.2.2.2.2.1,b0.2.2.2.2.2.2.2.2.2.2.1,b0.2.2.2.2.2.2.2.2.2.2.2.1,y2,b0.2.2.2.2.2.2.2.2.2.2.2.2.2))))
theorem Pd:PD JI JH:=jS (by kernel_rfl)
theorem lD:LZ U5 Ib:=cT ER rfl ⟨rfl,rfl⟩ (by kernel_rfl)
def Ze:=cG M5 (AH CE) (AH CE) kx
def Zf:=kE 0 [(7,2)] [7] 3 Ze kx
def YB:St->Option (RT (BL.outs CE)):=lG M4 [(7,2)] [0,5,7,11,12,13] 3 (AH CE) Zf
def Ed (x0:List Int) (x1 x2:Int) (x3:Y) (x4:AC) (x5:List AC):Option (List AC×Y):=YB ⟨[(0,.ptr 0 0),(5,.ptr 1 0),(7,.row 2),(11,.lst .W x0),(12,.int .i64 x1),(13,.int .i64 x2)],[.var (Z.enc x3),.var (AL.enc x4),.rows 112 AL x5]⟩
def HQ (x0:List Int) (x1 x2:Int) (x3:Y) (x4:AC) (x5:List AC):Option (List AC×Y):=(if (decide (x2<x1))=true then (if 0<=x2 then (if x2<(x0.length:Int) then ((Hw x4).bind fun y1=>(if x5.length+([(y1.1,x3.1,(x0.getD x2.toNat 0),x3.2.1,y1.2.2.2.2)]:List AC).length<=68719476736 then (Ed x0 x1 (i64.wrap (x2+1)) x3 x4 (x5++([(y1.1,x3.1,(x0.getD x2.toNat 0),x3.2.1,y1.2.2.2.2)]:List AC))) else none)) else none) else none) else (some (x5,x3)))
def Pe (x1:List Int) (x2:AC) (b0:Y):Option (List AC×Y):=(Ed x1 (x1.length:Int) 0 b0 x2 ([]:List AC))
theorem Le:Le6 HQ Ed:=lS (by kernel_rfl)
theorem di:M3 Pe Aq:=cT CE rfl ⟨rfl,rfl⟩ (by kernel_rfl)
def n9 (b0:Y):Option Y:=(some (b0.1,b0.2.1,b0.2.2.1,b0.2.2.2.1,false,false,[],b0.2.2.2.2.2.2.2.1,0,0,0,0,(U,U,0),([]:List Int)))
theorem n_:LZ n9 Gx:=cT JN rfl ⟨rfl,rfl⟩ (by kernel_rfl)
def Ou (x1:List Int) (x2:List AB) (b0:Y):Option (List AC×Y):=((CS x1 b0).bind fun y1=>((Ap x2).bind fun y2=>((B5 y1.1).bind fun y3=>((DI y3).bind fun y4=>(if ((y1.1.length:Int)==0)=true then ((Aq y1.1 (3,0,0,0,0,x2) (y1.2.1,y1.2.2.1,y1.2.2.2.1,true,y1.2.2.2.2.2.1,true,y4,y2,y1.2.2.2.2.2.2.2.2.2)).bind fun y5=>(some (y5.1,y5.2))) else ((Aq y1.1 (3,0,0,0,0,x2) (y1.2.1,y1.2.2.1,y1.2.2.2.1,true,y1.2.2.2.2.2.1,y1.2.2.2.2.2.2.1,y4,y2,y1.2.2.2.2.2.2.2.2.2)).bind fun y6=>(some (y6.1,y6.2))))))))
theorem az:M3 Ou Dy:=cT FS rfl ⟨rfl,rfl⟩ (by kernel_rfl)
def XX (x0:List (List Int)) (x1:Bool) (x2:Y) (x3:AC) (x4 x5:Y):Option (Y×List AC×List AN):=cG Y1 (AH Hs) (AH Hs) kx ⟨[(1,.lst .S x0),(5,.ptr 1 0),(6,.ptr 2 0),(9,.ptr 3 0),(47,.bool x1)],[.var (Z.enc x2),.var (AL.enc x3),.var (Z.enc x4),.var (Z.enc x5)]⟩
def XY (x0:List (List Int)) (x1:Bool) (x2:Y) (x3:AC) (x4 x5:Y):Option (Y×List AC×List AN):=((MR x0 x3 x5).bind fun y5=>((DG y5.2.2).bind fun y6=>(some (y6,y5.1,y5.2.1))))
def gC (x0:Y) (x1:List (List Int)) (x2:AC):Option (Y×List AC×List AN):=((DG x0).bind fun y1=>(if (x2.2.2.1 != x0.1)=false then (if (decide (x2.2.2.2.1<x0.2.1))=false then (if (decide (x2.2.2.2.1>(x1.length:Int)))=false then ((Gc x0).bind fun y2=>(if (!y2)=false then ((DL x1).bind fun y3=>(if (!y3)=false then ((am x2).bind fun y4=>(if (!y4)=true then (some (y1,[],[])) else (XX x1 (!y4) x0 x2 (0,0,false,false,false,false,([]:List Int),([]:List AB),0,0,0,0,(U,U,0),([]:List Int)) y1))) else (some (y1,[],[])))) else (some (y1,[],[])))) else (some (y1,[],[]))) else (some (y1,[],[]))) else (some (y1,[],[]))))
theorem oA:Le6 XY XX:=jS (by kernel_rfl)
theorem wX:M3 gC N9:=cT Hs rfl ⟨rfl,rfl⟩ (by kernel_rfl)
def EW (x0:Bool) (x1:Y):Option Bool:=cG WQ (AH Gb) (AH Gb) kx ⟨[(1,.ptr 0 0),(70,.bool x0)],[.var (Z.enc x1)]⟩
def U6 (x0:Bool) (x1:Y):Option Bool:=((P4 x1.2.2.2.2.2.2.2.2.2).bind fun y7=>(if y7=false then (if (x1.2.2.2.2.2.2.2.2.2.1==1)=false then (if (x1.2.2.2.2.2.2.2.2.2.1==2)=true then (if x1.2.2.2.2.2.1=true then ((Ad x1.2.2.2.2.2.2.2.2.2.2.1 0 1000).bind fun y8=>(if y8=true then ((Ad x1.2.2.2.2.2.2.2.2.2.2.2.1 1 900).bind fun y9=>(some y9)) else (some false))) else (some false)) else (some false)) else (if x1.2.2.2.2.2.1=true then ((Ad x1.2.2.2.2.2.2.2.2.2.2.1 0 1000).bind fun y10=>(if y10=true then ((Ad x1.2.2.2.2.2.2.2.2.2.2.2.1 1 900).bind fun y11=>(some y11)) else (some false))) else (some false))) else (some true)))
def dB (x0:Y):Option Bool:=((Ad x0.1 1 6).bind fun y1=>(if (!y1)=false then ((Ad x0.2.1 1 9).bind fun y2=>(if (!y2)=false then (if x0.2.2.2.2.2.1=true then (if (!x0.2.2.2.1)=false then (if (!x0.2.2.2.2.1)=false then (if (decide ((x0.2.2.2.2.2.2.1.length:Int)>0))=false then (if x0.2.2.1=true then (if x0.2.2.2.1=false then (if x0.2.2.2.2.1=false then ((Dm x0.2.2.2.2.2.2.1).bind fun y3=>(if (!y3)=false then ((Dm x0.2.2.2.2.2.2.2.2.2.2.2.2.2).bind fun y4=>(if (!y4)=false then ((Dz x0.2.2.2.2.2.2.2.1).bind fun y5=>(if (!y5)=false then ((Ad x0.2.2.2.2.2.2.2.2.1 0 900).bind fun y6=>(if (!y6)=true then (some false) else (EW (!y6) x0))) else (some false))) else (some false))) else (some false))) else (some false)) else (some false)) else ((Dm x0.2.2.2.2.2.2.1).bind fun y12=>(if (!y12)=false then ((Dm x0.2.2.2.2.2.2.2.2.2.2.2.2.2).bind fun y13=>(if (!y13)=false then ((Dz x0.2.2.2.2.2.2.2.1).bind fun y14=>(if (!y14)=false then ((Ad x0.2.2.2.2.2.2.2.2.1 0 900).bind fun y15=>(if (!y15)=true then (some false) else (EW (!y15) x0))) else (some false))) else (some false))) else (some false)))) else (some false)) else (some false)) else (some false)) else (if x0.2.2.1=true then (if x0.2.2.2.1=false then (if x0.2.2.2.2.1=false then ((Dm x0.2.2.2.2.2.2.1).bind fun y16=>(if (!y16)=false then ((Dm x0.2.2.2.2.2.2.2.2.2.2.2.2.2).bind fun y17=>(if (!y17)=false then ((Dz x0.2.2.2.2.2.2.2.1).bind fun y18=>(if (!y18)=false then ((Ad x0.2.2.2.2.2.2.2.2.1 0 900).bind fun y19=>(if (!y19)=true then (some false) else (EW (!y19) x0))) else (some false))) else (some false))) else (some false))) else (some false)) else (some false)) else ((Dm x0.2.2.2.2.2.2.1).bind fun y20=>(if (!y20)=false then ((Dm x0.2.2.2.2.2.2.2.2.2.2.2.2.2).bind fun y21=>(if (!y21)=false then ((Dz x0.2.2.2.2.2.2.2.1).bind fun y22=>(if (!y22)=false then ((Ad x0.2.2.2.2.2.2.2.2.1 0 900).bind fun y23=>(if (!y23)=true then (some false) else (EW (!y23) x0))) else (some false))) else (some false))) else (some false))))) else (some false))) else (some false)))
theorem lE:PD U6 EW:=jS (by kernel_rfl)
theorem tX:LZ dB Gd:=cT Gb rfl ⟨rfl,rfl⟩ (by kernel_rfl)
def tY:=cG b9 (AH Fg) (AH Fg) kx
def tZ:=kE 0 [] [4] 1 tY kx
def qj:St->Option (RT (BL.outs Fg)):=lG b8 [] [0,1,4,5] 1 (AH Fg) tZ
def Kq (x0:List AB) (x1:ByteArray) (x2:Int) (x3:AB):Option AB:=qj ⟨[(0,.lst AK x0),(1,.str x1),(4,.ptr 0 0),(5,.int .i64 x2)],[.var (AK.enc x3)]⟩
def QB (x0:List AB) (x1:ByteArray) (x2:Int) (x3:AB):Option AB:=(if (decide (x2<(x0.length:Int)))=true then (if 0<=x2 then (if x2<(x0.length:Int) then (if (((x0.getD x2.toNat (U,U,0)).1).toList==x1.toList)=true then (if 0<=x2 then (if x2<(x0.length:Int) then (some (x0.getD x2.toNat (U,U,0))) else none) else none) else (Kq x0 x1 (i64.wrap (x2+1)) x3)) else none) else none) else (some (U,U,0)))
def jV (x0:List AB) (x1:ByteArray):Option AB:=(Kq x0 x1 0 (U,U,0))
theorem Zg:X1 QB Kq:=lS (by kernel_rfl)
theorem yR:PD jV QW:=cT Fg rfl ⟨rfl,rfl⟩ (by kernel_rfl)
def qk:=cG Ny (AH BP) (AH BP) kx
def ql:=kE 2 [(5,1),(6,2)] [0,5,6] 3 qk kx
def oB:St->Option (RT (BL.outs BP)):=lG WR [(5,1),(6,2)] [0,3,5,6,8] 3 (AH BP) ql
def qm:=cG Nz (AH BP) (AH BP) kx
def QC:=kE 0 [(5,1),(6,2)] [0,3,5,6] 3 qm kx
def XZ:St->Option (RT (BL.outs BP)):=lG Y4 [(5,1),(6,2)] [0,3,5,6,7] 3 (AH BP) QC
def qn:=kB [(5,1),(6,2)] [0,3,5,6,7] 3 XZ
def Zh:=cG Y3 qn (AH BP) QC
def qo:=kB [(5,1),(6,2)] [0,3,5,6,7] 3 Zh
def qp:=kE 1 [(5,1),(6,2)] [0,3,5,6,7] 3 Zh QC
def Jq (x0:List AB) (x1:Int) (x2:AB) (x3 x4:List AB):Option (List AB):=cG Y2 qo (AH BP) qp ⟨[(0,.lst AK x0),(3,.ptr 0 0),(5,.row 1),(6,.row 2),(7,.int .i64 x1)],[.var (AK.enc x2),.rows 45 AK x3,.rows 45 AK x4]⟩
def Ov (x0:List AB) (x1:AB) (x2 x3:List AB):Option (List AB):=cG Ny (AH BP) (AH BP) kx ⟨[(0,.lst AK x0),(5,.row 1),(6,.row 2)],[.var (AK.enc x1),.rows 45 AK x2,.rows 45 AK x3]⟩
def E4 (x0:List AB) (x1:Int) (x2:AB) (x3 x4:List AB):Option (List AB):=oB ⟨[(0,.lst AK x0),(3,.ptr 0 0),(5,.row 1),(6,.row 2),(8,.int .i64 x1)],[.var (AK.enc x2),.rows 45 AK x3,.rows 45 AK x4]⟩
def Ow (x0:List AB) (x1:AB) (x2 x3:List AB):Option (List AB):=cG Nz (AH BP) (AH BP) kx ⟨[(0,.lst AK x0),(3,.ptr 0 0),(5,.row 1),(6,.row 2)],[.var (AK.enc x1),.rows 45 AK x2,.rows 45 AK x3]⟩
def E5 (x0:List AB) (x1:Int) (x2:AB) (x3 x4:List AB):Option (List AB):=XZ ⟨[(0,.lst AK x0),(3,.ptr 0 0),(5,.row 1),(6,.row 2),(7,.int .i64 x1)],[.var (AK.enc x2),.rows 45 AK x3,.rows 45 AK x4]⟩
def Xa (x0:List AB) (x1:Int) (x2:AB) (x3 x4:List AB):Option (List AB):=(if 0<=x1 then (if x1<(x0.length:Int) then (if (((x0.getD x1.toNat (U,U,0)).1).toList==x2.1.toList)=true then (if 0<=x1 then (if x1<(x0.length:Int) then (if (decide ((((x0.getD x1.toNat (U,U,0)).2).2)>=x2.2.2))=true then (some x3) else (E5 x0 (i64.wrap (x1+1)) x2 x3 x4)) else none) else none) else (E5 x0 (i64.wrap (x1+1)) x2 x3 x4)) else none) else none)
def Xb (x0:List AB) (x1:AB) (x2 x3:List AB):Option (List AB):=((Dz x0).bind fun y1=>(if (!y1)=false then ((Dz x3).bind fun y2=>(if (!y2)=true then (some x2) else (some x3))) else (some x2)))
def Ox (x0:List AB) (x1:Int) (x2:AB) (x3 x4:List AB):Option (List AB):=(if (decide (x1<(x0.length:Int)))=true then (if 0<=x1 then (if x1<(x0.length:Int) then (if (!((Op.bytesLess ((x0.getD x1.toNat (U,U,0)).1).toList x2.1.toList)||(((x0.getD x1.toNat (U,U,0)).1).toList==x2.1.toList)))=true then (if 0<=x1 then (if x1<(x0.length:Int) then (if x4.length+([x0.getD x1.toNat (U,U,0)]:List AB).length<=68719476736 then (E4 x0 (i64.wrap (x1+1)) x2 x3 (x4++([x0.getD x1.toNat (U,U,0)]:List AB))) else none) else none) else none) else (E4 x0 (i64.wrap (x1+1)) x2 x3 x4)) else none) else none) else (Ov x0 x2 x3 x4))
def Xc (x0:List AB) (x1:AB) (x2 x3:List AB):Option (List AB):=(if x3.length+([x1]:List AB).length<=68719476736 then (E4 x0 0 x1 x2 (x3++([x1]:List AB))) else none)
def Oy (x0:List AB) (x1:Int) (x2:AB) (x3 x4:List AB):Option (List AB):=(if (decide (x1<(x0.length:Int)))=true then (if 0<=x1 then (if x1<(x0.length:Int) then (if (Op.bytesLess ((x0.getD x1.toNat (U,U,0)).1).toList x2.1.toList)=true then (if 0<=x1 then (if x1<(x0.length:Int) then (if x4.length+([x0.getD x1.toNat (U,U,0)]:List AB).length<=68719476736 then (Jq x0 x1 x2 x3 (x4++([x0.getD x1.toNat (U,U,0)]:List AB))) else none) else none) else none) else (Jq x0 x1 x2 x3 x4)) else none) else none) else (Ow x0 x2 x3 x4))
def gD (x0:List AB) (x1:AB):Option (List AB):=(if ([]:List AB).length+x0.length<=68719476736 then (E5 x0 0 x1 (([]:List AB)++x0) ([]:List AB)) else none)
theorem oC:rq Xa Jq:=jS (by kernel_rfl)
theorem oD:X1 Xb Ov:=jS (by kernel_rfl)
theorem Xd:rq Ox E4:=lS (by kernel_rfl)
theorem oE:X1 Xc Ow:=jS (by kernel_rfl)
theorem Xe:rq Oy E5:=lS (by kernel_rfl)
theorem wY:PD gD KE:=cT BP rfl ⟨rfl,rfl⟩ (by kernel_rfl)
def lF:=cG T9 (AH Dc) (AH Dc) kx
def lH:=kE 0 [(5,0)] [5] 1 lF kx
def iy:St->Option (RT (BL.outs Dc)):=lG T8 [(5,0)] [0,1,5,6] 1 (AH Dc) lH
def Cj (x0:List Int) (x1 x2:Int) (x3:List Int):Option (List Int):=iy ⟨[(0,.lst .W x0),(1,.int .i64 x1),(5,.row 0),(6,.int .i64 x2)],[.rows 3 .W x3]⟩
def LN (x0:List Int) (x1 x2:Int) (x3:List Int):Option (List Int):=(if (decide (x2<=6))=true then (if (x2 != x1)=true then ((Ec x0 x2).bind fun y1=>(if y1=true then (if x3.length+([x2]:List Int).length<=68719476736 then (Cj x0 x1 (i64.wrap (x2+1)) (x3++([x2]:List Int))) else none) else (Cj x0 x1 (i64.wrap (x2+1)) x3))) else (Cj x0 x1 (i64.wrap (x2+1)) x3)) else (some x3))
def Zi (x0:List Int) (x1:Int):Option (List Int):=(Cj x0 x1 1 ([]:List Int))
theorem S4:X1 LN Cj:=lS (by kernel_rfl)
theorem qq:PD Zi Hx:=cT Dc rfl ⟨rfl,rfl⟩ (by kernel_rfl)
def Zj (b0:Y):Option (List AN×Y):=(if (b0.2.2.2.2.2.2.2.2.2.1==1)=true then ((KE b0.2.2.2.2.2.2.2.1 b0.2.2.2.2.2.2.2.2.2.2.2.2.1).bind fun y1=>(some (([(b0.2.2.2.2.2.2.2.2.2.2.1,b0.2.1,b0.2.2.2.2.2.2.2.2.2.2.2.1,b0.2.2.2.2.2.2.2.2.2.2.2.2.1)]:List AN),(b0.1,b0.2.1,b0.2.2.1,b0.2.2.2.1,b0.2.2.2.2.1,b0.2.2.2.2.2.1,b0.2.2.2.2.2.2.1,y1,b0.2.2.2.2.2.2.2.2.1,0,0,0,(U,U,0),([]:List Int))))) else ((QW b0.2.2.2.2.2.2.2.1 b0.2.2.2.2.2.2.2.2.2.2.2.2.1.1).bind fun y2=>(some (([(b0.2.2.2.2.2.2.2.2.2.2.1,b0.2.1,b0.2.2.2.2.2.2.2.2.2.2.2.1,y2)]:List AN),(b0.1,b0.2.1,b0.2.2.1,b0.2.2.2.1,b0.2.2.2.2.1,b0.2.2.2.2.2.1,b0.2.2.2.2.2.2.1,b0.2.2.2.2.2.2.2.1,b0.2.2.2.2.2.2.2.2.1,0,0,0,(U,U,0),([]:List Int))))))
theorem qr:LZ Zj Hy:=cT Kf rfl ⟨rfl,rfl⟩ (by kernel_rfl)
def ta:=cG cA (AH Fh) (AH Fh) kx
def tc:=kE 0 [(7,1)] [7] 3 ta kx
def qt:St->Option (RT (BL.outs Fh)):=lG b_ [(7,1)] [0,1,2,7,8] 3 (AH Fh) tc
def H7 (x0:List Int) (x1:List AB) (x2:Int) (x3:Y) (x4:List AC) (x5:List AB):Option (List AC×Y):=qt ⟨[(0,.ptr 0 0),(1,.lst .W x0),(2,.lst AK x1),(7,.row 1),(8,.int .i64 x2)],[.var (Z.enc x3),.rows 112 AL x4,.frz AK x5]⟩
def QD (x0:List Int) (x1:List AB) (x2:Int) (x3:Y) (x4:List AC) (x5:List AB):Option (List AC×Y):=(if (decide (x2<(x0.length:Int)))=true then (if 0<=x2 then (if x2<(x0.length:Int) then (if ((x0.getD x2.toNat 0) != x3.1)=true then (if 0<=x2 then (if x2<(x0.length:Int) then (if ([]:List AB).length+x1.length<=68719476736 then (if x4.length+([(3,x3.1,(x0.getD x2.toNat 0),x3.2.1,0,(([]:List AB)++x1))]:List AC).length<=68719476736 then (H7 x0 x1 (i64.wrap (x2+1)) x3 (x4++([(3,x3.1,(x0.getD x2.toNat 0),x3.2.1,0,(([]:List AB)++x1))]:List AC)) x5) else none) else none) else none) else none) else (H7 x0 x1 (i64.wrap (x2+1)) x3 x4 x5)) else none) else none) else (some (x4,x3)))
def jW (x1:List Int) (x2:List AB) (b0:Y):Option (List AC×Y):=(if ([]:List AB).length+x2.length<=68719476736 then ((Hx x1 b0.1).bind fun y1=>(H7 x1 x2 0 (b0.1,b0.2.1,b0.2.2.1,true,b0.2.2.2.2.1,((y1.length:Int)==0),y1,(([]:List AB)++x2),b0.2.2.2.2.2.2.2.2) ([]:List AC) (([]:List AB)++x2))) else none)
theorem Zk:Le6 QD H7:=lS (by kernel_rfl)
theorem yS:M3 jW QX:=cT Fh rfl ⟨rfl,rfl⟩ (by kernel_rfl)
def gE:=cG ee (AH FT) (AH FT) kx
def wZ:=kB [] [1] 1 gE
def wa:=kE 0 [] [1] 1 gE kx
def MB (x0:Int) (x1:Bool) (x2:AC):Option Bool:=cG ed wZ (AH FT) wa ⟨[(1,.ptr 0 0),(38,.int .i64 x0),(39,.bool x1)],[.var (AL.enc x2)]⟩
def Rz (x0:Bool) (x1:AC):Option Bool:=cG en (AH FT) (AH FT) kx ⟨[(1,.ptr 0 0),(36,.bool x0)],[.var (AL.enc x1)]⟩
def dC (x0:Int) (x1:Bool) (x2:AC):Option Bool:=(if x1=true then (some true) else (if (x0==5)=true then (some ((x2.2.2.2.2.2.length:Int)==1)) else (some ((x2.2.2.2.2.2.length:Int)==0))))
def dD (x0:Bool) (x1:AC):Option Bool:=(if (x1.1==2)=true then (MB x1.1 (x1.1==2) x1) else (MB x1.1 (x1.1==3) x1))
def oF (x0:AC):Option Bool:=((Ad x0.1 1 8).bind fun y1=>(if (!y1)=false then ((Ad x0.2.1 1 6).bind fun y2=>(if (!y2)=false then ((Ad x0.2.2.1 1 6).bind fun y3=>(if (!y3)=false then ((Ad x0.2.2.2.1 1 9).bind fun y4=>(if (!y4)=false then ((Ad x0.2.2.2.2.1 0 1000000000).bind fun y5=>(if (!y5)=false then ((Dz x0.2.2.2.2.2).bind fun y6=>(if (!y6)=true then (some false) else (Rz (!y6) x0))) else (some false))) else (some false))) else (some false))) else (some false))) else (some false)))
theorem td:M3 dC MB:=jS (by kernel_rfl)
theorem tf:PD dD Rz:=jS (by kernel_rfl)
theorem AAR:LZ oF ak:=cT FT rfl ⟨rfl,rfl⟩ (by kernel_rfl)

def dE:=cG Y8 (AH C2) (AH C2) kx
def Gg:=kB [] [6,9,10,11] 4 dE
def Gh:=kE 0 [] [6,9,10,11] 4 dE kx
def Kr (x0:List Int) (x1:List AC) (x2:List AN) (x3:Bool) (x4:Y) (x5:AC) (x6 x7:Y):Option (Y×List AC×List AN):=cG cB Gg (AH C2) Gh ⟨[(1,.lst .W x0),(5,.ptr 1 0),(6,.ptr 2 0),(9,.ptr 3 0),(10,.lst AL x1),(11,.lst BG x2),(28,.bool x3)],[.var (Z.enc x4),.var (AL.enc x5),.var (Z.enc x6),.var (Z.enc x7)]⟩
def Kt (x0:List AC) (x1:List AN) (x2:Bool) (x3:Y) (x4:AC) (x5 x6:Y):Option (Y×List AC×List AN):=cG cC Gg (AH C2) Gh ⟨[(3,.ptr 0 0),(5,.ptr 1 0),(6,.ptr 2 0),(9,.ptr 3 0),(10,.lst AL x0),(11,.lst BG x1),(60,.bool x2)],[.var (Z.enc x3),.var (AL.enc x4),.var (Z.enc x5),.var (Z.enc x6)]⟩
def QE (x0:List AC) (x1:List AN) (x2:Bool) (x3:Y) (x4:AC) (x5 x6:Y):Option (Y×List AC×List AN):=cG cD Gg (AH C2) Gh ⟨[(3,.ptr 0 0),(5,.ptr 1 0),(6,.ptr 2 0),(9,.ptr 3 0),(10,.lst AL x0),(11,.lst BG x1),(50,.bool x2)],[.var (Z.enc x3),.var (AL.enc x4),.var (Z.enc x5),.var (Z.enc x6)]⟩
def QF (x0:List AC) (x1:List AN) (x2:Bool) (x3:Y) (x4:AC) (x5 x6:Y):Option (Y×List AC×List AN):=cG Y5 Gg (AH C2) Gh ⟨[(5,.ptr 1 0),(6,.ptr 2 0),(9,.ptr 3 0),(10,.lst AL x0),(11,.lst BG x1),(145,.bool x2)],[.var (Z.enc x3),.var (AL.enc x4),.var (Z.enc x5),.var (Z.enc x6)]⟩
def Ku (x0:List AC) (x1:List AN) (x2:Int) (x3:Y) (x4:AC) (x5 x6:Y):Option (Y×List AC×List AN):=cG Y6 Gg (AH C2) Gh ⟨[(5,.ptr 1 0),(6,.ptr 2 0),(9,.ptr 3 0),(10,.lst AL x0),(11,.lst BG x1),(13,.int .i64 x2)],[.var (Z.enc x3),.var (AL.enc x4),.var (Z.enc x5),.var (Z.enc x6)]⟩
def Kv (x0:List AC) (x1:List AN) (x2:Bool) (x3:Y) (x4:AC) (x5 x6:Y):Option (Y×List AC×List AN):=cG Y7 Gg (AH C2) Gh ⟨[(5,.ptr 1 0),(6,.ptr 2 0),(9,.ptr 3 0),(10,.lst AL x0),(11,.lst BG x1),(127,.bool x2)],[.var (Z.enc x3),.var (AL.enc x4),.var (Z.enc x5),.var (Z.enc x6)]⟩
def Zl (x0:List Int) (x1:List AC) (x2:List AN) (x3:Bool) (x4:Y) (x5:AC) (x6 x7:Y):Option (Y×List AC×List AN):=(if x3=true then ((QX x0 x5.2.2.2.2.2 x7).bind fun y2=>(some (y2.2,y2.1,x2))) else (some (x7,x1,x2)))
def Zm (x0:List AC) (x1:List AN) (x2:Bool) (x3:Y) (x4:AC) (x5 x6:Y):Option (Y×List AC×List AN):=(if (!x6.2.2.2.1)=true then ((N_ x3 x3.2.1).bind fun y4=>(if ([]:List AB).length+x4.2.2.2.2.2.length<=68719476736 then ((E8 x3 x4 4).bind fun y5=>(some ((y4.1,y4.2.1,y4.2.2.1,true,y4.2.2.2.2.1,y4.2.2.2.2.2.1,y4.2.2.2.2.2.2.1,(([]:List AB)++x4.2.2.2.2.2),y4.2.2.2.2.2.2.2.2),y5,x1))) else none)) else ((E8 x3 x4 4).bind fun y6=>(some (x6,y6,x1))))
def Zn (x0:List AC) (x1:List AN) (x2:Bool) (x3:Y) (x4:AC) (x5 x6:Y):Option (Y×List AC×List AN):=(if (!x6.2.2.2.1)=true then (if x6.2.2.1=true then (some (x6,x0,x1)) else (Kt x0 x1 x6.2.2.1 x3 x4 x5 x6)) else (Kt x0 x1 false x3 x4 x5 x6))
def Zo (x0:List AC) (x1:List AN) (x2:Bool) (x3:Y) (x4:AC) (x5 x6:Y):Option (Y×List AC×List AN):=((JP x6.2.2.2.2.2.2.2.2.2.2.2.2.2 x4.2.1).bind fun y11=>(if ((y11.length:Int)==0)=true then ((Hy (x6.1,x6.2.1,x6.2.2.1,x6.2.2.2.1,x6.2.2.2.2.1,x6.2.2.2.2.2.1,x6.2.2.2.2.2.2.1,x6.2.2.2.2.2.2.2.1,x6.2.2.2.2.2.2.2.2.1,x6.2.2.2.2.2.2.2.2.2.1,x6.2.2.2.2.2.2.2.2.2.2.1,x6.2.2.2.2.2.2.2.2.2.2.2.1,x6.2.2.2.2.2.2.2.2.2.2.2.2.1,y11)).bind fun y12=>(some (y12.2,x0,y12.1))) else (some ((x6.1,x6.2.1,x6.2.2.1,x6.2.2.2.1,x6.2.2.2.2.1,x6.2.2.2.2.2.1,x6.2.2.2.2.2.2.1,x6.2.2.2.2.2.2.2.1,x6.2.2.2.2.2.2.2.2.1,x6.2.2.2.2.2.2.2.2.2.1,x6.2.2.2.2.2.2.2.2.2.2.1,x6.2.2.2.2.2.2.2.2.2.2.2.1,x6.2.2.2.2.2.2.2.2.2.2.2.2.1,y11),x0,x1))))
def Zp (x0:List AC) (x1:List AN) (x2:Int) (x3:Y) (x4:AC) (x5 x6:Y):Option (Y×List AC×List AN):=(if (x6.2.2.2.2.2.2.2.2.2.1 != x2)=false then (if (x6.2.2.2.2.2.2.2.2.2.2.2.1 != x4.2.2.2.2.1)=true then (some (x6,x0,x1)) else (QF x0 x1 (x6.2.2.2.2.2.2.2.2.2.2.2.1 != x4.2.2.2.2.1) x3 x4 x5 x6)) else (some (x6,x0,x1)))
def Zq (x0:List AC) (x1:List AN) (x2:Bool) (x3:Y) (x4:AC) (x5 x6:Y):Option (Y×List AC×List AN):=(if x2=true then (if (x4.1==8)=true then (Ku x0 x1 2 x3 x4 x5 x6) else (Ku x0 x1 1 x3 x4 x5 x6)) else (some (x6,x0,x1)))
def jX (x0:Y) (x1:List Int) (x2:AC):Option (Y×List AC×List AN):=((Dv x0).bind fun y1=>(if (x2.1==2)=true then (if y1.2.2.2.2.1=true then (Kr x1 ([]:List AC) ([]:List AN) (!y1.2.2.2.1) x0 x2 (0,0,false,false,false,false,([]:List Int),([]:List AB),0,0,0,0,(U,U,0),([]:List Int)) y1) else (Kr x1 ([]:List AC) ([]:List AN) false x0 x2 (0,0,false,false,false,false,([]:List Int),([]:List AB),0,0,0,0,(U,U,0),([]:List Int)) y1)) else (if (x2.1==3)=true then ((Ec x1 x0.1).bind fun y3=>(if (!y3)=true then (some (y1,([]:List AC),([]:List AN))) else (if 0<=(0:Int) then (if 0<(x1.length:Int) then (if ((x1.getD (0:Int).toNat 0)==x0.1)=true then (some (y1,([]:List AC),([]:List AN))) else (QE ([]:List AC) ([]:List AN) ((x1.getD (0:Int).toNat 0)==x0.1) x0 x2 (0,0,false,false,false,false,([]:List Int),([]:List AB),0,0,0,0,(U,U,0),([]:List Int)) y1)) else none) else none))) else (if (x2.1==4)=true then (if y1.2.2.2.2.1=true then ((JP y1.2.2.2.2.2.2.1 x2.2.1).bind fun y7=>(if y1.2.2.2.1=true then (some ((y1.1,y1.2.1,y1.2.2.1,y1.2.2.2.1,y1.2.2.2.2.1,((y7.length:Int)==0),y7,y1.2.2.2.2.2.2.2),([]:List AC),([]:List AN))) else (some ((y1.1,y1.2.1,y1.2.2.1,y1.2.2.2.1,y1.2.2.2.2.1,false,y7,y1.2.2.2.2.2.2.2),([]:List AC),([]:List AN))))) else (some (y1,([]:List AC),([]:List AN)))) else (if (x2.1==5)=true then (if y1.2.2.2.1=true then (if 0<=(0:Int) then (if 0<(x2.2.2.2.2.2.length:Int) then ((KE y1.2.2.2.2.2.2.2.1 (x2.2.2.2.2.2.getD (0:Int).toNat (U,U,0))).bind fun y8=>((E8 x0 x2 6).bind fun y9=>(some ((y1.1,y1.2.1,y1.2.2.1,y1.2.2.2.1,y1.2.2.2.2.1,y1.2.2.2.2.2.1,y1.2.2.2.2.2.2.1,y8,y1.2.2.2.2.2.2.2.2),y9,([]:List AN))))) else none) else none) else (some (y1,([]:List AC),([]:List AN)))) else (if (x2.1==7)=true then (if y1.2.2.2.1=true then ((E8 x0 x2 8).bind fun y10=>(some (y1,y10,([]:List AN)))) else (some (y1,([]:List AC),([]:List AN)))) else (if (x2.1==6)=true then (Kv ([]:List AC) ([]:List AN) (x2.1==6) x0 x2 (0,0,false,false,false,false,([]:List Int),([]:List AB),0,0,0,0,(U,U,0),([]:List Int)) y1) else (Kv ([]:List AC) ([]:List AN) (x2.1==8) x0 x2 (0,0,false,false,false,false,([]:List Int),([]:List AB),0,0,0,0,(U,U,0),([]:List Int)) y1))))))))
theorem qu:Le8 Zl Kr:=jS (by kernel_rfl)
theorem qv:Le7 Zm Kt:=jS (by kernel_rfl)
theorem qw:Le7 Zn QE:=jS (by kernel_rfl)
theorem qx:Le7 Zo QF:=jS (by kernel_rfl)
theorem qy:Le7 Zp Ku:=jS (by kernel_rfl)
theorem qz:Le7 Zq Kv:=jS (by kernel_rfl)
theorem yT:M3 jX X8:=cT C2 rfl ⟨rfl,rfl⟩ (by kernel_rfl)
def gF (x0:Y) (x1:Int):Option Y:=(if ([]:List AB).length+x0.2.2.2.2.2.2.2.1.length<=68719476736 then (some (x0.1,x1,false,false,false,false,([]:List Int),(([]:List AB)++x0.2.2.2.2.2.2.2.1),0,0,0,0,(U,U,0),([]:List Int))) else none)
theorem wg:PD gF N_:=cT N0 rfl ⟨rfl,rfl⟩ (by kernel_rfl)
def th (x0:Y) (x1:AC) (x2:Int):Option (List AC):=(some ([(x2,x0.1,x1.2.1,x1.2.2.2.1,x1.2.2.2.2.1,([]:List AB))]:List AC))
theorem ti:M3 th E8:=cT Lw rfl ⟨rfl,rfl⟩ (by kernel_rfl)
def gG:=cG Qy (AH Cx) (AH Cx) kx
def gH:=kE 0 [] [] 0 gG kx
def dj:St->Option (RT (BL.outs Cx)):=lG Qx [] [0,1,2,9,10,11] 0 (AH Cx) gH
def EK (x0:List Int) (x1 x2:Int) (x3:List Int) (x4 x5:Int):Option Bool:=dj ⟨[(0,.lst .W x0),(1,.int .i64 x1),(2,.int .i64 x2),(9,.lst .W x3),(10,.int .i64 x4),(11,.int .i64 x5)],[]⟩
def JJ (x0:List Int) (x1 x2:Int) (x3:List Int) (x4 x5:Int):Option Bool:=(if (decide (x5<x4))=true then (if 0<=x5 then (if x5<(x3.length:Int) then ((Av (x3.getD x5.toNat 0) x1 x2).bind fun y1=>(if (!y1)=false then (if (decide (x5>0))=true then (if 0<=(i64.wrap (x5-1)) then (if (i64.wrap (x5-1))<(x0.length:Int) then (if (decide ((x3.getD x5.toNat 0)<=(x0.getD (i64.wrap (x5-1)).toNat 0)))=true then (some false) else (EK x0 x1 x2 x3 x4 (i64.wrap (x5+1)))) else none) else none) else (EK x0 x1 x2 x3 x4 (i64.wrap (x5+1)))) else (some false))) else none) else none) else (some true))
def U7 (x0:List Int) (x1 x2:Int):Option Bool:=(EK x0 x1 x2 x0 (x0.length:Int) 0)
theorem Pf:Le6 JJ EK:=lS (by kernel_rfl)
theorem lI:M3 U7 Ic:=cT Cx rfl ⟨rfl,rfl⟩ (by kernel_rfl)
def q8:=cG WW (AH En) (AH En) kx
def q9:=kE 0 [] [0] 0 q8 kx
def oG:St->Option (RT (BL.outs En)):=lG WV [] [0,5,6,7] 0 (AH En) q9
def HD (x0 x1:List AB) (x2 x3:Int):Option Bool:=oG ⟨[(0,.lst AK x0),(5,.lst AK x1),(6,.int .i64 x2),(7,.int .i64 x3)],[]⟩
def Oz (x0 x1:List AB) (x2 x3:Int):Option Bool:=(if (decide (x3<x2))=true then (if 0<=x3 then (if x3<(x1.length:Int) then ((TJ ((x1.getD x3.toNat (U,U,0)).1)).bind fun y1=>(if (!y1)=true then (some false) else (if (decide (((((x1.getD x3.toNat (U,U,0)).2).1).size:Int)>20))=true then (some false) else ((Av (((x1.getD x3.toNat (U,U,0)).2).2) 1 1000000000).bind fun y2=>(if (!y2)=true then (some false) else (if (decide (x3>0))=true then (if 0<=(i64.wrap (x3-1)) then (if (i64.wrap (x3-1))<(x0.length:Int) then (if ((Op.bytesLess ((x1.getD x3.toNat (U,U,0)).1).toList ((x0.getD (i64.wrap (x3-1)).toNat (U,U,0)).1).toList)||(((x1.getD x3.toNat (U,U,0)).1).toList==((x0.getD (i64.wrap (x3-1)).toNat (U,U,0)).1).toList))=true then (some false) else (HD x0 x1 x2 (i64.wrap (x3+1)))) else none) else none) else (HD x0 x1 x2 (i64.wrap (x3+1))))))))) else none) else none) else (some (decide ((x0.length:Int)<=12))))
def gI (x0:List AB):Option Bool:=(HD x0 x0 (x0.length:Int) 0)
theorem Xf:X1 Oz HD:=lS (by kernel_rfl)
theorem wh:LZ gI F5:=cT En rfl ⟨rfl,rfl⟩ (by kernel_rfl)
def RN (b0:Y):Option (Bool×Y):=(if (b0.2.2.2.2.2.2.2.2.2.1==0)=true then (if (b0.2.2.2.2.2.2.2.2.2.2.1==0)=true then (if (b0.2.2.2.2.2.2.2.2.2.2.2.1==0)=true then (if (false != dy AK b0.2.2.2.2.2.2.2.2.2.2.2.2.1 (U,U,0))=true then (some (((b0.2.2.2.2.2.2.2.2.2.2.2.2.2.length:Int)==0),b0)) else (some (false,b0))) else (some (false,b0))) else (some (false,b0))) else ((Av b0.2.2.2.2.2.2.2.2.2.1 1 2).bind fun y1=>(if y1=true then (if b0.2.2.2.2.2.1=true then ((Av b0.2.2.2.2.2.2.2.2.2.2.1 0 1000).bind fun y2=>(if y2=true then ((Av b0.2.2.2.2.2.2.2.2.2.2.2.1 1 900).bind fun y3=>(if y3=true then ((Ic b0.2.2.2.2.2.2.2.2.2.2.2.2.2 1 6).bind fun y4=>(some (y4,b0))) else (some (false,b0)))) else (some (false,b0)))) else (some (false,b0))) else (some (false,b0)))))
theorem gJ:LZ RN De:=cT Gu rfl ⟨rfl,rfl⟩ (by kernel_rfl)
def IJ:=kE 0 [] [] 1 (AH BR) kx
def H8:St->Option (RT (BL.outs BR)):=lG Hu [(0,0)] [0,1,2,3,8,9] 1 (AH BR) IJ
def IK:=kB [(0,0)] [0,1,2,3,8,9] 1 H8
def RO:=kB [(0,0)] [0,1,2,3,8,9] 1 IK
def RP:=kE 1 [(0,0)] [0,1,2,3,8,9] 1 IK IJ
def H9 (x0 x1 x2:Int) (x3 x4:Bool) (x5:Int) (x6:List Int):Option (List Int):=cG Ht RO (AH BR) RP ⟨[(0,.row 0),(1,.int .i64 x0),(2,.int .i64 x1),(3,.int .i64 x2),(8,.bool x3),(9,.bool x4),(10,.int .i64 x5)],[.mrow 3 .W x6]⟩
def H_ (x0 x1 x2:Int) (x3 x4:Bool) (x5:List Int):Option (List Int):=H8 ⟨[(0,.row 0),(1,.int .i64 x0),(2,.int .i64 x1),(3,.int .i64 x2),(8,.bool x3),(9,.bool x4)],[.mrow 3 .W x5]⟩
def IA (x0 x1 x2:Int) (x3 x4:Bool) (x5:List Int):Option (List Int):=(if (decide ((i64.wrap (x1-x0))<=12))=true then ((Dj x0 x1 x5).bind fun y1=>(some y1)) else (if (x2==0)=true then ((Rp x0 x1 x5).bind fun y2=>(some y2)) else (if (!x3)=true then ((NJ x0 x1 x5).bind fun y3=>(H9 x0 x1 (i64.wrap (x2-1)) x3 x4 (i64.wrap (x1-x0)) y3)) else (H9 x0 x1 x2 x3 x4 (i64.wrap (x1-x0)) x5))))
def Jr (x1 x2 x3:Int) (b0:List Int):Option (List Int):=(H_ x1 x2 x3 true true b0)
theorem QG:Le6 IA H_:=lS (by kernel_rfl)
theorem TN:X1 Jr FW:=cT BR rfl ⟨rfl,rfl⟩ (by kernel_rfl)
def dF (x0:Int):Option Int:=((OB x0).bind fun y1=>(some y1))
theorem tj:LZ dF Ro:=cT Lx rfl ⟨rfl,rfl⟩ (by kernel_rfl)
def Js (x0:List AB) (x1:AB) (x2:List AB):Option (List AB):=cG Y_ (AH Eo) (AH Eo) kx ⟨[(0,.lst AK x0),(5,.row 1)],[.var (AK.enc x1),.rows 45 AK x2]⟩
def Jt (x0:List AB) (x1:Int) (x2 x3:Bool) (x4:AB) (x5:List AB):Option (List AB):=cG ZA (AH Eo) (AH Eo) kx ⟨[(0,.lst AK x0),(3,.ptr 0 0),(5,.row 1),(6,.int .i64 x1),(7,.bool x2),(32,.bool x3)],[.var (AK.enc x4),.rows 45 AK x5]⟩
def Xg (x0:List AB) (x1:AB) (x2:List AB):Option (List AB):=((F5 x2).bind fun y5=>(if (!y5)=true then ((Ap x0).bind fun y6=>(some y6)) else (some x2)))
def Xh (x0:List AB) (x1:Int) (x2 x3:Bool) (x4:AB) (x5:List AB):Option (List AB):=(if x2=true then (if 0<=x1 then (if x1<(x5.length:Int) then (let z4:List AB:=x5.set x1.toNat x4; (Js x0 x4 z4)) else none) else none) else ((DM x5 x1 ([x4]:List AB)).bind fun y7=>(Js x0 x4 y7)))
def gK (x0:List AB) (x1:AB):Option (List AB):=((Ap x0).bind fun y1=>((Bj x0 x1.1 ()).bind fun y2=>((F5 x0).bind fun y3=>(if (!y3)=true then (some y1) else (if y2.2=true then (if 0<=y2.1 then (if y2.1<(x0.length:Int) then (if (decide ((((x0.getD y2.1.toNat (U,U,0)).2).2)>=x1.2.2))=true then (some y1) else (Jt x0 y2.1 y2.2 (decide ((((x0.getD y2.1.toNat (U,U,0)).2).2)>=x1.2.2)) x1 y1)) else none) else none) else (Jt x0 y2.1 y2.2 false x1 y1))))))
theorem oH:M3 Xg Js:=jS (by kernel_rfl)
theorem oI:Le6 Xh Jt:=jS (by kernel_rfl)
theorem wo:PD gK OA:=cT Eo rfl ⟨rfl,rfl⟩ (by kernel_rfl)
def gL:=cG e_ (AH FU) (AH FU) kx
def wr:=kB [] [1] 1 gL
def wu:=kE 0 [] [1] 1 gL kx
def MC (x0:Int) (x1:Bool) (x2:AC):Option Bool:=cG ew wr (AH FU) wu ⟨[(1,.ptr 0 0),(38,.int .i64 x0),(39,.bool x1)],[.var (AL.enc x2)]⟩
def R0 (x0:Bool) (x1:AC):Option Bool:=cG fA (AH FU) (AH FU) kx ⟨[(1,.ptr 0 0),(36,.bool x0)],[.var (AL.enc x1)]⟩
def dG (x0:Int) (x1:Bool) (x2:AC):Option Bool:=(if x1=true then (some true) else (if (x0==5)=true then (some ((x2.2.2.2.2.2.length:Int)==1)) else (some ((x2.2.2.2.2.2.length:Int)==0))))
def dH (x0:Bool) (x1:AC):Option Bool:=(if (x1.1==2)=true then (MC x1.1 (x1.1==2) x1) else (MC x1.1 (x1.1==3) x1))
def oJ (x0:AC):Option Bool:=((Av x0.1 1 8).bind fun y1=>(if (!y1)=false then ((Fn x0.2.1).bind fun y2=>(if (!y2)=false then ((Fn x0.2.2.1).bind fun y3=>(if (!y3)=false then ((Av x0.2.2.2.1 1 9).bind fun y4=>(if (!y4)=false then ((Av x0.2.2.2.2.1 0 1000000000).bind fun y5=>(if (!y5)=false then ((F5 x0.2.2.2.2.2).bind fun y6=>(if (!y6)=true then (some false) else (R0 (!y6) x0))) else (some false))) else (some false))) else (some false))) else (some false))) else (some false)))
theorem tl:M3 dG MC:=jS (by kernel_rfl)
theorem tm:PD dH R0:=jS (by kernel_rfl)
theorem AAS:LZ oJ am:=cT FU rfl ⟨rfl,rfl⟩ (by kernel_rfl)
def RQ:=cG PM (AH CX) (AH CX) kx
def KN:=kB [] [] 2 RQ
def KO:=kE 0 [] [] 2 RQ kx
def EL (x0:List (List Int)) (x1:Bool) (x2:Y) (x3:AC):Option (List AC×List AN×Y):=cG Q0 KN (AH CX) KO ⟨[(0,.ptr 0 0),(1,.lst .S x0),(5,.ptr 1 0),(37,.bool x1)],[.var (Z.enc x2),.var (AL.enc x3)]⟩
def GO (x0:Bool) (x1:Y) (x2:AC):Option (List AC×List AN×Y):=cG Q1 KN (AH CX) KO ⟨[(0,.ptr 0 0),(5,.ptr 1 0),(75,.bool x0)],[.var (Z.enc x1),.var (AL.enc x2)]⟩
def GP (x0:Int) (x1:Bool) (x2:Y) (x3:AC):Option (List AC×List AN×Y):=cG PL KN (AH CX) KO ⟨[(0,.ptr 0 0),(5,.ptr 1 0),(9,.int .i64 x0),(107,.bool x1)],[.var (Z.enc x2),.var (AL.enc x3)]⟩
def Pg (x0:List (List Int)) (x1:Bool) (x2:Y) (x3:AC):Option (List AC×List AN×Y):=(if x1=true then (if 0<=(i64.wrap (x2.2.1-1)) then (if (i64.wrap (x2.2.1-1))<(x0.length:Int) then ((Dy (x0.getD (i64.wrap (x2.2.1-1)).toNat ([]:List Int)) x3.2.2.2.2.2 x2).bind fun y2=>(some (y2.1,[],y2.2))) else none) else none) else (some ([],[],x2)))
def Ph (x0:Bool) (x1:Y) (x2:AC):Option (List AC×List AN×Y):=(if x0=true then ((OC x1.2.2.2.2.2.2.1 x2.2.1).bind fun y4=>(if x1.2.2.2.2.2.1=false then (if ((y4.length:Int)==0)=true then (some ([],[],(x1.1,x1.2.1,x1.2.2.1,x1.2.2.2.1,x1.2.2.2.2.1,x1.2.2.2.1,y4,x1.2.2.2.2.2.2.2))) else (some ([],[],(x1.1,x1.2.1,x1.2.2.1,x1.2.2.2.1,x1.2.2.2.2.1,false,y4,x1.2.2.2.2.2.2.2)))) else (some ([],[],(x1.1,x1.2.1,x1.2.2.1,x1.2.2.2.1,x1.2.2.2.2.1,true,y4,x1.2.2.2.2.2.2.2))))) else (some ([],[],x1)))
def Pi (x0:Int) (x1:Bool) (x2:Y) (x3:AC):Option (List AC×List AN×Y):=(if x1=true then ((K7 x3 x2).bind fun y5=>(some (y5.1,[],y5.2))) else (if (x0==6)=true then ((Gy 1 x3 x2).bind fun y6=>(some ([],y6.1,y6.2))) else (if (x0==8)=true then ((Gy 2 x3 x2).bind fun y7=>(some ([],y7.1,y7.2))) else (some ([],[],x2)))))
def U8 (x1:List (List Int)) (x2:AC) (b0:Y):Option (List AC×List AN×Y):=(if (x2.1==1)=true then ((MS x1 x2 b0).bind fun y1=>(some (y1.1,[],y1.2))) else (if (x2.1==2)=true then (if (x2.2.2.2.1==b0.2.1)=true then (if b0.2.2.2.2.1=true then (EL x1 (!b0.2.2.2.1) b0 x2) else (EL x1 false b0 x2)) else (EL x1 false b0 x2)) else (if (x2.1==3)=true then (if 0<=(i64.wrap (x2.2.2.2.1-1)) then (if (i64.wrap (x2.2.2.2.1-1))<(x1.length:Int) then ((I_ (x1.getD (i64.wrap (x2.2.2.2.1-1)).toNat ([]:List Int)) x2 b0).bind fun y3=>(some (y3.1,[],y3.2))) else none) else none) else (if (x2.1==4)=true then (if (x2.2.2.2.1==b0.2.1)=true then (GO b0.2.2.2.2.1 b0 x2) else (GO false b0 x2)) else (if (x2.1==5)=true then (GP x2.1 (x2.1==5) b0 x2) else (GP x2.1 (x2.1==7) b0 x2))))))
theorem dl:X1 Pg EL:=jS (by kernel_rfl)
theorem dn:M3 Ph GO:=jS (by kernel_rfl)
theorem dp:X1 Pi GP:=jS (by kernel_rfl)
theorem lJ:M3 U8 MR:=cT CX rfl ⟨rfl,rfl⟩ (by kernel_rfl)
def tp:=cG cI (AH Fi) (AH Fi) kx
def tq:=kE 0 [] [] 0 tp kx
def q_:St->Option (RT (BL.outs Fi)):=lG cH [] [0,3] 0 (AH Fi) tq
def IB (x0:List Int) (x1:Int):Option Bool:=q_ ⟨[(0,.lst .W x0),(3,.int .i64 x1)],[]⟩
def QH (x0:List Int) (x1:Int):Option Bool:=(if (decide (x1<(x0.length:Int)))=true then (if 0<=x1 then (if x1<(x0.length:Int) then ((Ad (x0.getD x1.toNat 0) 1 6).bind fun y1=>(if (!y1)=true then (some false) else (if (decide (x1>0))=true then (if 0<=(i64.wrap (x1-1)) then (if (i64.wrap (x1-1))<(x0.length:Int) then (if 0<=x1 then (if x1<(x0.length:Int) then (if (decide ((x0.getD (i64.wrap (x1-1)).toNat 0)>=(x0.getD x1.toNat 0)))=true then (some false) else (IB x0 (i64.wrap (x1+1)))) else none) else none) else none) else none) else (IB x0 (i64.wrap (x1+1)))))) else none) else none) else (some true))
def jY (x0:List Int):Option Bool:=(IB x0 0)
theorem Zr:PD QH IB:=lS (by kernel_rfl)
theorem yU:LZ jY Dm:=cT Fi rfl ⟨rfl,rfl⟩ (by kernel_rfl)
def rA:=cG Wb (AH Ep) (AH Ep) kx
def rB:=kE 0 [] [0] 0 rA kx
def oK:St->Option (RT (BL.outs Ep)):=lG Wa [] [0,3] 0 (AH Ep) rB
def HE (x0:List AB) (x1:Int):Option Bool:=oK ⟨[(0,.lst AK x0),(3,.int .i64 x1)],[]⟩
def O0 (x0:List AB) (x1:Int):Option Bool:=(if (decide (x1<(x0.length:Int)))=true then (if 0<=x1 then (if x1<(x0.length:Int) then ((Ad (((x0.getD x1.toNat (U,U,0)).1).size:Int) 1 12).bind fun y1=>(if (!y1)=true then (some false) else (if (decide (((((x0.getD x1.toNat (U,U,0)).2).1).size:Int)>20))=true then (some false) else ((Ad (((x0.getD x1.toNat (U,U,0)).2).2) 1 1000000000).bind fun y2=>(if (!y2)=true then (some false) else (if (decide (x1>0))=true then (if 0<=(i64.wrap (x1-1)) then (if (i64.wrap (x1-1))<(x0.length:Int) then (if (!(Op.bytesLess ((x0.getD (i64.wrap (x1-1)).toNat (U,U,0)).1).toList ((x0.getD x1.toNat (U,U,0)).1).toList))=true then (some false) else (HE x0 (i64.wrap (x1+1)))) else none) else none) else (HE x0 (i64.wrap (x1+1))))))))) else none) else none) else (some (decide ((x0.length:Int)<=12))))
def gM (x0:List AB):Option Bool:=(HE x0 0)
theorem Xi:PD O0 HE:=lS (by kernel_rfl)
theorem w9:LZ gM Dz:=cT Ep rfl ⟨rfl,rfl⟩ (by kernel_rfl)
def Zs (x0:zm):Option Bool:=(if (x0.1==0)=true then (if (x0.2.1==0)=true then (if (x0.2.2.1==0)=true then (if (false != dy AK x0.2.2.2.1 (U,U,0))=true then (some ((x0.2.2.2.2.length:Int)==0)) else (some false)) else (some false)) else (some false)) else (some false))
theorem rC:LZ Zs P4:=cT Kg rfl ⟨rfl,rfl⟩ (by kernel_rfl)
def iz:=cG SN (AH DE) (AH DE) kx
def i6:=kE 0 [(5,0)] [5] 1 iz kx
def gN:St->Option (RT (BL.outs DE)):=lG SM [(5,0)] [0,1,5,6] 1 (AH DE) i6
def Er (x0:List Int) (x1 x2:Int) (x3:List Int):Option (List Int):=gN ⟨[(0,.lst .W x0),(1,.int .i64 x1),(5,.row 0),(6,.int .i64 x2)],[.rows 3 .W x3]⟩
def KP (x0:List Int) (x1 x2:Int) (x3:List Int):Option (List Int):=(if (decide (x2<(x0.length:Int)))=true then (if 0<=x2 then (if x2<(x0.length:Int) then (if ((x0.getD x2.toNat 0) != x1)=true then (if 0<=x2 then (if x2<(x0.length:Int) then (if x3.length+([(x0.getD x2.toNat 0)]:List Int).length<=68719476736 then (Er x0 x1 (i64.wrap (x2+1)) (x3++([(x0.getD x2.toNat 0)]:List Int))) else none) else none) else none) else (Er x0 x1 (i64.wrap (x2+1)) x3)) else none) else none) else (some x3))
def Xj (x0:List Int) (x1:Int):Option (List Int):=(Er x0 x1 0 ([]:List Int))
theorem RR:X1 KP Er:=lS (by kernel_rfl)
theorem oL:PD Xj JP:=cT DE rfl ⟨rfl,rfl⟩ (by kernel_rfl)
def HF (x0 x1:Int):Option Int:=cG SO (AH DF) (AH DF) kx ⟨[(0,.int .u64 x0),(2,.int .i64 x1)],[]⟩
def KQ (x0 x1:Int):Option Int:=cG SP (AH DF) (AH DF) kx ⟨[(0,.int .u64 x0),(2,.int .i64 x1)],[]⟩
def KR (x0 x1:Int):Option Int:=(if (decide (x0>=256))=true then (if 8<0 then none else (if 0<=(IntKind.u8.wrap (Int.fdiv x0 (2^(min (8:Int).toNat (IntKind.bits .u64))))) then (if (IntKind.u8.wrap (Int.fdiv x0 (2^(min (8:Int).toNat (IntKind.bits .u64)))))<((⟨uu⟩:ByteArray).size:Int) then (some (i64.wrap ((i64.wrap (x1+8))+(i64.wrap (((⟨uu⟩:ByteArray).data.toList.getD (IntKind.u8.wrap (Int.fdiv x0 (2^(min (8:Int).toNat (IntKind.bits .u64))))).toNat 0).toNat:Int))))) else none) else none)) else (if 0<=(IntKind.u8.wrap x0) then (if (IntKind.u8.wrap x0)<((⟨uu⟩:ByteArray).size:Int) then (some (i64.wrap (x1+(i64.wrap (((⟨uu⟩:ByteArray).data.toList.getD (IntKind.u8.wrap x0).toNat 0).toNat:Int))))) else none) else none))
def RS (x0 x1:Int):Option Int:=(if (decide (x0>=65536))=true then (if 16<0 then none else (HF (Int.fdiv x0 (2^(min (16:Int).toNat (IntKind.bits .u64)))) (i64.wrap (x1+16)))) else (HF x0 x1))
def Xk (x0:Int):Option Int:=(if (decide (x0>=4294967296))=true then (if 32<0 then none else (KQ (Int.fdiv x0 (2^(min (32:Int).toNat (IntKind.bits .u64)))) 32)) else (KQ x0 0))
theorem gO:PD KR HF:=jS (by kernel_rfl)
theorem gP:PD RS KQ:=jS (by kernel_rfl)
theorem oM:LZ Xk OB:=cT DF rfl ⟨rfl,rfl⟩ (by kernel_rfl)
def DN:=kE 0 [] [] 1 (AH Ac) kx
def FI:St->Option (RT (BL.outs Ac)):=lG Fm [(0,0)] [0,1,2,6] 1 (AH Ac) DN
def Lf:=kB [(0,0)] [0,1,2,6] 1 FI
def Fo:=cG Fl Lf (AH Ac) DN
def Lg:=kB [(0,0)] [0,1,2,6] 1 Fo
def Lh:=kE 1 [(0,0)] [0,1,2,6] 1 Fo DN
def Fp:=kE 2 [(0,0)] [0,1,2,6] 1 Lg Lh
def FJ:St->Option (RT (BL.outs Ac)):=lG Fk [(0,0)] [0,1,2,6,7] 1 (AH Ac) Fp
def Li:=kB [(0,0)] [0,1,2,6,7] 1 FJ
def FK (x0 x1 x2 x3:Int) (x4:Bool) (x5:List Int):Option (List Int):=cG Fj Li (AH Ac) Fp ⟨[(0,.row 0),(1,.int .i64 x0),(2,.int .i64 x1),(6,.int .i64 x2),(7,.int .i64 x3),(30,.bool x4)],[.mrow 3 .W x5]⟩
def CI (x0 x1 x2 x3:Int) (x4:List Int):Option (List Int):=FJ ⟨[(0,.row 0),(1,.int .i64 x0),(2,.int .i64 x1),(6,.int .i64 x2),(7,.int .i64 x3)],[.mrow 3 .W x4]⟩
def BJ (x0 x1 x2:Int) (x3:List Int):Option (List Int):=FI ⟨[(0,.row 0),(1,.int .i64 x0),(2,.int .i64 x1),(6,.int .i64 x2)],[.mrow 3 .W x3]⟩
def FM (x0 x1 x2 x3:Int) (x4:Bool) (x5:List Int):Option (List Int):=(if 0<=(i64.wrap (x3-1)) then (if (i64.wrap (x3-1))<(x5.length:Int) then (if 0<=x3 then (if x3<(x5.length:Int) then (if 0<=x3 then (if x3<(x5.length:Int) then (let z2:List Int:=x5.set x3.toNat (x5.getD ((i64.wrap (x3-1)).toNat) 0); (if 0<=(i64.wrap (x3-1)) then (if (i64.wrap (x3-1))<(z2.length:Int) then (let z3:List Int:=z2.set ((i64.wrap (x3-1)).toNat) (x5.getD x3.toNat 0); (CI x0 x1 x2 (i64.wrap (x3-1)) z3)) else none) else none)) else none) else none) else none) else none) else none) else none)
def DA (x0 x1 x2 x3:Int) (x4:List Int):Option (List Int):=(if (decide (x3>x0))=true then (if 0<=x3 then (if x3<(x4.length:Int) then (if 0<=(i64.wrap (x3-1)) then (if (i64.wrap (x3-1))<(x4.length:Int) then ((UL (x4.getD x3.toNat 0) (x4.getD ((i64.wrap (x3-1)).toNat) 0)).bind fun y1=>(if y1=true then (FK x0 x1 x2 x3 y1 x4) else (BJ x0 x1 (i64.wrap (x2+1)) x4))) else none) else none) else none) else none) else (BJ x0 x1 (i64.wrap (x2+1)) x4))
def CJ (x0 x1 x2:Int) (x3:List Int):Option (List Int):=(if (decide (x2<x1))=true then (CI x0 x1 x2 x2 x3) else (some x3))
def Dk (x1 x2:Int) (b0:List Int):Option (List Int):=(BJ x1 x2 (i64.wrap (x1+1)) b0)
theorem LO:Le6 FM FK:=jS (by kernel_rfl)
theorem FN:rq DA CI:=lS (by kernel_rfl)
theorem DB:X1 CJ BJ:=lS (by kernel_rfl)
theorem GW:M3 Dk Dj:=cT Ac rfl ⟨rfl,rfl⟩ (by kernel_rfl)
def gQ (x0 x1:Int):Option Bool:=((L7 x0).bind fun y1=>(if y1=true then ((L7 x1).bind fun y2=>(if (!y2)=false then (some (decide (x0<x1))) else (some true))) else (some (decide (x0<x1)))))
theorem w_:PD gQ UL:=cT N1 rfl ⟨rfl,rfl⟩ (by kernel_rfl)
def FA:=cG Bd (AH AP) (AH AP) kx
def FB:=kE 0 [] [0,1,2,8,9] 0 FA kx
def Eu:St->Option (RT (BL.outs AP)):=lG Ce [] [0,1,2,8,9,10] 0 (AH AP) FB
def CZ (x0:List AB) (x1:ByteArray) (x2 x3:Int):Option (Int×Bool):=cG Bd (AH AP) (AH AP) kx ⟨[(0,.lst AK x0),(1,.str x1),(2,.fn 173 []),(8,.int .i64 x2),(9,.int .i64 x3)],[]⟩
def AR (x0:List AB) (x1:ByteArray) (x2 x3 x4:Int):Option (Int×Bool):=Eu ⟨[(0,.lst AK x0),(1,.str x1),(2,.fn 173 []),(8,.int .i64 x2),(9,.int .i64 x3),(10,.int .i64 x4)],[]⟩
def Ca (x0:List AB) (x1:ByteArray) (x2 x3:Int):Option (Int×Bool):=(if (decide (x3<x2))=true then (if 0<=x3 then (if x3<(x0.length:Int) then ((Kl (x0.getD x3.toNat (U,U,0)) x1).bind fun y2=>(some (x3,(y2==0)))) else none) else none) else (some (x3,false)))
def BZ (x0:List AB) (x1:ByteArray) (x2 x3 x4:Int):Option (Int×Bool):=(if (decide (x3<x4))=true then (if 1<0 then none else (if 0<=(i64.wrap (Int.fdiv (IntKind.u64.wrap (i64.wrap (x3+x4))) (2^(min (1:Int).toNat (IntKind.bits .u64))))) then (if (i64.wrap (Int.fdiv (IntKind.u64.wrap (i64.wrap (x3+x4))) (2^(min (1:Int).toNat (IntKind.bits .u64)))))<(x0.length:Int) then ((Kl (x0.getD (i64.wrap (Int.fdiv (IntKind.u64.wrap (i64.wrap (x3+x4))) (2^(min (1:Int).toNat (IntKind.bits .u64))))).toNat (U,U,0)) x1).bind fun y1=>(if (decide (y1<0))=true then (AR x0 x1 x2 (i64.wrap ((i64.wrap (Int.fdiv (IntKind.u64.wrap (i64.wrap (x3+x4))) (2^(min (1:Int).toNat (IntKind.bits .u64)))))+1)) x4) else (AR x0 x1 x2 x3 (i64.wrap (Int.fdiv (IntKind.u64.wrap (i64.wrap (x3+x4))) (2^(min (1:Int).toNat (IntKind.bits .u64)))))))) else none) else none)) else (CZ x0 x1 x2 x3))
def Cn (x0:List AB) (x1:ByteArray) (x2:Unit):Option (Int×Bool):=(AR x0 x1 (x0.length:Int) 0 (x0.length:Int))
theorem Ew:X1 Ca CZ:=jS (by kernel_rfl)
theorem Cb:rq BZ AR:=lS (by kernel_rfl)
theorem FZ:M3 Cn Bj:=cT AP rfl ⟨rfl,rfl⟩ (by kernel_rfl)
def Zt (x0:AB) (x1:ByteArray):Option Int:=((OD x0.1 x1).bind fun y1=>(some y1))
theorem rD:PD Zt Kl:=cT Kh rfl ⟨rfl,rfl⟩ (by kernel_rfl)
def Pj (x0:Bool) (x1:Y) (x2:AC):Option (List AC×Y):=cG PO (AH ES) (AH ES) kx ⟨[(0,.ptr 0 0),(5,.ptr 1 0),(37,.bool x0)],[.var (Z.enc x1),.var (AL.enc x2)]⟩
def Pk (x0:Bool) (x1:Y) (x2:AC):Option (List AC×Y):=((Gx (x1.1,x2.2.2.2.1,x1.2.2.1,false,x1.2.2.2.2)).bind fun y2=>((Aq ([x2.2.1]:List Int) (2,0,0,0,0,y2.2.2.2.2.2.2.2.1) y2).bind fun y3=>(some (y3.1,y3.2))))
def U9 (x1:List (List Int)) (x2:AC) (b0:Y):Option (List AC×Y):=(if (x2.2.2.2.1 != (i64.wrap (b0.2.1+1)))=true then (some ([],b0)) else (if (!b0.2.2.2.1)=true then (some ([],b0)) else (if 0<=(i64.wrap (b0.2.1-1)) then (if (i64.wrap (b0.2.1-1))<(x1.length:Int) then ((C8 (x1.getD (i64.wrap (b0.2.1-1)).toNat ([]:List Int)) b0.1).bind fun y1=>(if (!y1)=true then (some ([],b0)) else (Pj (!y1) b0 x2))) else none) else none)))
theorem dq:M3 Pk Pj:=jS (by kernel_rfl)
theorem lK:M3 U9 MS:=cT ES rfl ⟨rfl,rfl⟩ (by kernel_rfl)
def NB:=cG M8 (AH Bu) (AH Bu) kx
def Zu:=kB [] [0,5] 2 NB
def Zv:=kE 0 [] [0,5] 2 NB kx
def DO (x0:Bool) (x1:Y) (x2:AC):Option (List AC×Y):=cG M7 Zu (AH Bu) Zv ⟨[(0,.ptr 0 0),(5,.ptr 1 0),(24,.bool x0)],[.var (Z.enc x1),.var (AL.enc x2)]⟩
def Lj (x0:Bool) (x1:Y) (x2:AC):Option (List AC×Y):=cG M9 (AH Bu) (AH Bu) kx ⟨[(0,.ptr 0 0),(5,.ptr 1 0),(23,.bool x0)],[.var (Z.enc x1),.var (AL.enc x2)]⟩
def Lk (x0:Bool) (x1:Y) (x2:AC):Option (List AC×Y):=(if x0=true then ((Ap x2.2.2.2.2.2).bind fun y2=>((Gx (x1.1,x2.2.2.2.1,false,true,x1.2.2.2.2.1,x1.2.2.2.2.2.1,x1.2.2.2.2.2.2.1,y2,x1.2.2.2.2.2.2.2.2)).bind fun y3=>((Aq ([x2.2.1]:List Int) (4,0,0,0,0,([]:List AB)) y3).bind fun y4=>(some (y4.1,y4.2))))) else (if (!x1.2.2.2.1)=true then (some ([],x1)) else ((Aq ([x2.2.1]:List Int) (4,0,0,0,0,([]:List AB)) x1).bind fun y5=>(some (y5.1,y5.2)))))
def Ll (x0:Bool) (x1:Y) (x2:AC):Option (List AC×Y):=(if (decide (x2.2.2.2.1>x1.2.1))=true then (DO true x1 x2) else (if (!x1.2.2.2.1)=true then (DO (!x1.2.2.1) x1 x2) else (DO false x1 x2)))
def Pl (x1:List Int) (x2:AC) (b0:Y):Option (List AC×Y):=((C8 x1 b0.1).bind fun y1=>(if (!y1)=true then (some ([],b0)) else (if 0<=(0:Int) then (if 0<(x1.length:Int) then (if ((x1.getD (0:Int).toNat 0)==b0.1)=true then (some ([],b0)) else (Lj ((x1.getD (0:Int).toNat 0)==b0.1) b0 x2)) else none) else none)))
theorem YC:M3 Lk DO:=jS (by kernel_rfl)
theorem YD:M3 Ll Lj:=jS (by kernel_rfl)
theorem dr:M3 Pl I_:=cT Bu rfl ⟨rfl,rfl⟩ (by kernel_rfl)
def gR (x0:List Int) (x1:Int):Option (List Int):=((B5 x0).bind fun y1=>((FX y1 x1).bind fun y2=>(some y2)))
theorem xA:PD gR OC:=cT N2 rfl ⟨rfl,rfl⟩ (by kernel_rfl)
def O1 (x0:Bool) (x1:Y) (x2:AC):Option (List AC×Y):=cG PP (AH D7) (AH D7) kx ⟨[(0,.ptr 0 0),(3,.ptr 1 0),(18,.bool x0)],[.var (Z.enc x1),.var (AL.enc x2)]⟩
def O2 (x0:Bool) (x1:Y) (x2:AC):Option (List AC×Y):=(if (x2.1==7)=true then ((Aq ([x2.2.1]:List Int) (8,0,0,0,x2.2.2.2.2.1,([]:List AB)) x1).bind fun y1=>(some (y1.1,y1.2))) else (if 0<=(0:Int) then (if 0<(x2.2.2.2.2.2.length:Int) then ((OA x1.2.2.2.2.2.2.2.1 (x2.2.2.2.2.2.getD (0:Int).toNat (U,U,0))).bind fun y2=>((Aq ([x2.2.1]:List Int) (6,0,0,0,x2.2.2.2.2.1,([]:List AB)) (x1.1,x1.2.1,x1.2.2.1,x1.2.2.2.1,x1.2.2.2.2.1,x1.2.2.2.2.2.1,x1.2.2.2.2.2.2.1,y2,x1.2.2.2.2.2.2.2.2)).bind fun y3=>(some (y3.1,y3.2)))) else none) else none))
def S5 (x1:AC) (b0:Y):Option (List AC×Y):=(if (x1.2.2.2.1 != b0.2.1)=true then (some ([],b0)) else (if (!b0.2.2.2.1)=true then (some ([],b0)) else (O1 (!b0.2.2.2.1) b0 x1)))
theorem a_:M3 O2 O1:=jS (by kernel_rfl)
theorem i7:PD S5 K7:=cT D7 rfl ⟨rfl,rfl⟩ (by kernel_rfl)

def NC (x0:Bool) (x1:Y) (x2:AC):Option (List AN×Y):=cG M_ (AH Dd) (AH Dd) kx ⟨[(0,.ptr 0 0),(5,.ptr 1 0),(32,.bool x0)],[.var (Z.enc x1),.var (AL.enc x2)]⟩
def ND (x0:Bool) (x1:Y) (x2:AC):Option (List AN×Y):=((OC x1.2.2.2.2.2.2.2.2.2.2.2.2.2 x2.2.1).bind fun y1=>(if (decide ((y1.length:Int)>0))=true then (some ([],(x1.1,x1.2.1,x1.2.2.1,x1.2.2.2.1,x1.2.2.2.2.1,x1.2.2.2.2.2.1,x1.2.2.2.2.2.2.1,x1.2.2.2.2.2.2.2.1,x1.2.2.2.2.2.2.2.2.1,x1.2.2.2.2.2.2.2.2.2.1,x1.2.2.2.2.2.2.2.2.2.2.1,x1.2.2.2.2.2.2.2.2.2.2.2.1,x1.2.2.2.2.2.2.2.2.2.2.2.2.1,y1))) else ((Ib (x1.1,x1.2.1,x1.2.2.1,x1.2.2.2.1,x1.2.2.2.2.1,x1.2.2.2.2.2.1,x1.2.2.2.2.2.2.1,x1.2.2.2.2.2.2.2.1,x1.2.2.2.2.2.2.2.2.1,x1.2.2.2.2.2.2.2.2.2.1,x1.2.2.2.2.2.2.2.2.2.2.1,x1.2.2.2.2.2.2.2.2.2.2.2.1,x1.2.2.2.2.2.2.2.2.2.2.2.2.1,y1)).bind fun y2=>(some (y2.1,y2.2)))))
def RU (x1:Int) (x2:AC) (b0:Y):Option (List AN×Y):=(if (x2.2.2.2.1 != b0.2.1)=true then (some ([],b0)) else (if (b0.2.2.2.2.2.2.2.2.2.1 != x1)=true then (some ([],b0)) else (if (b0.2.2.2.2.2.2.2.2.2.2.2.1 != x2.2.2.2.2.1)=true then (some ([],b0)) else (NC (b0.2.2.2.2.2.2.2.2.2.2.2.1 != x2.2.2.2.2.1) b0 x2))))
theorem Zw:M3 ND NC:=jS (by kernel_rfl)
theorem gS:M3 RU Gy:=cT Dd rfl ⟨rfl,rfl⟩ (by kernel_rfl)
def dI (x0:Int):Option Bool:=(some (x0 != x0))
theorem tr:LZ dI L7:=cT Ly rfl ⟨rfl,rfl⟩ (by kernel_rfl)
end
end Go.Proofs.YtfcgblnlopemkaaGreatDoor.Core


namespace Go.Proofs.YtfcgblnlopemkaaGreatDoor.Core
open Go
theorem Aa {n:Int} (h:-9223372036854775808<=n/\n<=9223372036854775807):IntKind.i64.wrap n=n:=IntWalk.i64_in n h
theorem AO {i:Nat} (h:i<9223372036854775807):IntKind.i64.wrap ((i:Int)+1)=((i+1:Nat):Int):=by
 rw [Aa (by omega)]
 omega
theorem Jy {P:Nat->Prop} {n:Nat} (h0:P n) (h:∀ i,i<n->P (i+1)->P i):∀ i,i<=n->P i:=by
 intro i hi
 induction hk:n-i generalizing i with
 | zero =>
  have:i=n:=by omega
  subst this
  exact h0
 | succ k ih=>exact h i (by omega) (ih (i+1) (by omega) (by omega))
theorem AW {α:Type} {xs:List α} {i:Nat} {d:α} (h:i<xs.length):xs.getD i d=xs[i]:=by
 simp [List.getD,h]

theorem BX (a b c:Int):Ad a b c=some (decide (b<=a)&&decide (a<=c)):=AAK (by
 unfold nT
 by_cases h:b<=a<;>simp [h])
theorem BI (a b c:Int):Av a b c=some (decide (b<=a)&&decide (a<=c)):=wJ (by
 unfold fc
 by_cases h:b<=a<;>simp [h])

def DX (x:List (ByteArray×ByteArray×Int)) (k:ByteArray):ByteArray×ByteArray×Int :=
 (x.find? fun a=>a.1.toList==k.toList).getD (U,U,0)
theorem Am {α:Type} {x:List α} {i:Nat} (h:i<x.length):x.drop i=x[i]::x.drop (i+1):=List.drop_eq_getElem_cons h
theorem Zx (x k) (h:x.length<=maxLen):QW x k=some (DX x k):=yR (by
 have hm:x.length<=9223372036854775807:=h
 unfold jV
 exact Jy (n:=x.length) (P:=fun i=>∀ z,Kq x k (i:Int) z=some (DX (x.drop i) k)) (fun z=>Zg (by
  unfold QB
  rw [if_neg (by simp),List.drop_length]
  rfl)) (fun i hi ih z=>Zg (by
  unfold QB
  simp only [show ((i:Int)<(x.length:Int)) from by omega,decide_true,if_true,show (0:Int)<=(i:Int) from by omega,Ab,AW hi,AO (show i<9223372036854775807 by omega)]
  rw [Am hi]
  by_cases hk:(x[i].1.toList==k.toList)=true
  ·rw [if_pos hk]
   unfold DX
   rw [List.find?_cons,hk]
   rfl
  ·rw [if_neg hk,ih]
   unfold DX
   rw [List.find?_cons,Bool.eq_false_iff.2 hk])) 0 (by omega) _)
theorem Zy (x k) (h:x.length<=maxLen):QV x k=some (DX x k):=yQ (by
 have hm:x.length<=9223372036854775807:=h
 unfold jU
 exact Jy (n:=x.length) (P:=fun i=>∀ z,Kp k x (x.length:Int) (i:Int) z=some (DX (x.drop i) k)) (fun z=>Zc (by
  unfold QA
  rw [if_neg (by simp),List.drop_length]
  rfl)) (fun i hi ih z=>Zc (by
  unfold QA
  simp only [show ((i:Int)<(x.length:Int)) from by omega,decide_true,if_true,show (0:Int)<=(i:Int) from by omega,Ab,AW hi,AO (show i<9223372036854775807 by omega)]
  rw [Am hi]
  by_cases hk:(x[i].1.toList==k.toList)=true
  ·rw [if_pos hk]
   unfold DX
   rw [List.find?_cons,hk]
   rfl
  ·rw [if_neg hk,ih]
   unfold DX
   rw [List.find?_cons,Bool.eq_false_iff.2 hk])) 0 (by omega) _)

theorem R1 k:TJ k=some (decide (1<=(k.size:Int))&&decide ((k.size:Int)<=12)):=AAM (by simp [ns,BI])
theorem IC n:Fn n=some (decide (1<=n)&&decide (n<=6)):=yM (by simp [jQ,BI])
def isE (v:ByteArray):Bool:=v.toList==(⟨#[]⟩:ByteArray).toList
theorem rE (v:ByteArray):(v.toList==(⟨#[]⟩:ByteArray).toList)=isE v:=rfl
def Xl (op:Int) (k v:ByteArray):Bool :=
 (decide (op=1)||decide (op=2))&&(decide (1<=(k.size:Int))&&decide ((k.size:Int)<=12))&&decide ((v.size:Int)<=20)&&(decide (op=1)||isE v)
def IG (x:Int×Int×Int×Int×ByteArray×ByteArray):Bool :=
 decide (1<=x.1)&&decide (x.1<=6)&&(decide (1<=x.2.1)&&decide (x.2.1<=6))&&decide (0<=x.2.2.1) &&
  (if x.1=1 then Xl x.2.2.2.1 x.2.2.2.2.1 x.2.2.2.2.2 else decide (x.2.2.2.1=0)&&isE x.2.2.2.2.1&&isE x.2.2.2.2.2)
theorem ts a k v:N8 a 0 k v=some (Xl a k v):=nW (by
 have w:∀ b,L8 a v b=some (decide (a=1)||isE v):=fun b=>cV (by
  unfold Rr
  rw [rE]
  by_cases h:a=1<;>simp [h])
 unfold an Xl
 have ADd:decide ((v.size:Int)>20)=!decide ((v.size:Int)<=20):=by
  by_cases h:(v.size:Int)<=20<;>simp [h]
  omega
 simp only [ADd,BI,R1,AA,w]
 by_cases h1:a=1
 ·by_cases h2:1<=(k.size:Int)<;>by_cases h3:(k.size:Int)<=12<;>by_cases h4:(v.size:Int)<=20<;>simp [h1,h2,h3,h4]
 ·by_cases h1b:a=2
  ·by_cases h2:1<=(k.size:Int)<;>by_cases h3:(k.size:Int)<=12<;>by_cases h4:(v.size:Int)<=20<;>simp [h1b,h2,h3,h4]
  ·have:¬ (1<=a/\a<=2):=by omega
   by_cases h5:1<=a
   ·have:¬ a<=2:=by omega
    simp [h1,h1b,this]
   ·simp [h1,h1b,h5])
theorem Xm x:N7 x=some (IG x):=wB (by
 have w:∀ b,OS b x=some (if x.1=1 then Xl x.2.2.2.1 x.2.2.2.2.1 x.2.2.2.2.2 else decide (x.2.2.2.1=0)&&isE x.2.2.2.2.1&&isE x.2.2.2.2.2):=fun b=>nM (by
  unfold W7
  simp only [rE]
  by_cases h:x.1=1
  ·simp [h,ts]
  ·by_cases h2:x.2.2.2.1=0<;>rcases Bool.eq_false_or_eq_true (isE x.2.2.2.2.1) with h3 | h3<;>simp [h,h2,h3])
 unfold fS IG
 simp only [BI,IC,AA,w]
 by_cases h1:1<=x.1<;>by_cases h2:x.1<=6<;>by_cases h3:1<=x.2.1<;>by_cases h4:x.2.1<=6<;>by_cases h5:0<=x.2.2.1<;>simp [h1,h2,h3,h4,h5]<;>omega)
theorem Xn x:N6 x=some (IG x):=wA (by
 have w:∀ b,OR b x=some (if x.1=1 then Xl x.2.2.2.1 x.2.2.2.2.1 x.2.2.2.2.2 else decide (x.2.2.2.1=0)&&isE x.2.2.2.2.1&&isE x.2.2.2.2.2):=fun b=>nJ (by
  unfold W6 Xl
  simp only [rE]
  by_cases h:x.1=1
  ·simp only [BX,AA]
   by_cases g1:x.2.2.2.1=1
   ·by_cases h2:1<=(x.2.2.2.2.1.size:Int)<;>by_cases h3:(x.2.2.2.2.1.size:Int)<=12<;>by_cases h4:(x.2.2.2.2.2.size:Int)<=20<;>simp [h,g1,h2,h3,h4]
   ·by_cases g2:x.2.2.2.1=2
    ·by_cases h2:1<=(x.2.2.2.2.1.size:Int)<;>by_cases h3:(x.2.2.2.2.1.size:Int)<=12<;>by_cases h4:(x.2.2.2.2.2.size:Int)<=20<;>simp [h,g2,h2,h3,h4]
    ·simp [h,g1,g2]
  ·by_cases h2:x.2.2.2.1=0<;>rcases Bool.eq_false_or_eq_true (isE x.2.2.2.2.1) with h3 | h3<;>simp [h,h2,h3])
 unfold fR IG
 simp only [BX,AA,w]
 by_cases h1:1<=x.1<;>by_cases h2:x.1<=6<;>by_cases h3:1<=x.2.1<;>by_cases h4:x.2.1<=6<;>by_cases h5:0<=x.2.2.1<;>simp [h1,h2,h3,h4,h5]<;>omega)

def MD (a:ByteArray×ByteArray×Int):Bool:=(decide (1<=(a.1.size:Int))&&decide ((a.1.size:Int)<=12))&&decide ((a.2.1.size:Int)<=20)&&(decide (1<=a.2.2)&&decide (a.2.2<=1000000000))
def CU (x:List (ByteArray×ByteArray×Int)) (i:Nat):Nat->Bool
 | 0=>decide ((x.length:Int)<=12)
 | k+1=>MD (x.getD i (U,U,0))&&(decide (i=0)||Op.bytesLess (x.getD (i-1) (U,U,0)).1.toList (x.getD i (U,U,0)).1.toList)&&CU x (i+1) k
theorem ADd (n:Int):decide (n>20)=!decide (n<=20):=by
 by_cases h:n<=20<;>simp [h]
 omega
theorem hO {i:Nat} (h:i<9223372036854775807) (h0:0<i):IntKind.i64.wrap ((i:Int)-1)=((i-1:Nat):Int):=by
 rw [Aa (by omega)]
 omega
theorem Ju (x) (h:x.length<=maxLen):Dz x=some (CU x 0 x.length):=w9 (by
 have hm:x.length<=9223372036854775807:=h
 unfold gM
 have:=Jy (n:=x.length) (P:=fun i=>HE x (i:Int)=some (CU x i (x.length-i))) (Xi (by
  unfold O0
  rw [if_neg (by simp),Nat.sub_self]
  rfl)) (fun i hi ih=>Xi (by
  unfold O0
  have e:x.length-i=(x.length-(i+1))+1:=by omega
  simp only [show ((i:Int)<(x.length:Int)) from by omega,decide_true,if_true,show (0:Int)<=(i:Int) from by omega,Ab,AO (show i<9223372036854775807 by omega),ih,BX,AA,ADd]
  rw [e,CU,MD]
  generalize (decide (1<=((x.getD i (U,U,0)).1.size:Int))&&decide (((x.getD i (U,U,0)).1.size:Int)<=12))=a
  generalize decide (((x.getD i (U,U,0)).2.1.size:Int)<=20)=b
  generalize (decide (1<=(x.getD i (U,U,0)).2.2)&&decide ((x.getD i (U,U,0)).2.2<=1000000000))=c
  cases a
  ·simp
  cases b
  ·simp
  cases c
  ·simp
  by_cases h0:0<i
  ·rw [hO (by omega) h0]
   simp only [Ab,show ((0:Int)<=((i-1:Nat):Int)) from by omega,show (((i-1:Nat):Int)<(x.length:Int)) from by omega,if_true]
   rcases Bool.eq_false_or_eq_true (Op.bytesLess (x.getD (i-1) (U,U,0)).1.toList (x.getD i (U,U,0)).1.toList) with hb | hb<;>simp only [hb]<;>simp [h0,show i≠0 by omega]
  ·have:i=0:=by omega
   subst this
   simp)) 0 (by omega)
 simpa using this)
theorem O3 (x) (h:x.length<=maxLen) (hl:∀ a b:List UInt8,(Op.bytesLess a b||a==b)=!Op.bytesLess b a):F5 x=some (CU x 0 x.length):=wh (by
 have hm:x.length<=9223372036854775807:=h
 unfold gI
 have:=Jy (n:=x.length) (P:=fun i=>HD x x (x.length:Int) (i:Int)=some (CU x i (x.length-i))) (Xf (by
  unfold Oz
  rw [if_neg (by simp),Nat.sub_self]
  rfl)) (fun i hi ih=>Xf (by
  unfold Oz
  have e:x.length-i=(x.length-(i+1))+1:=by omega
  simp only [show ((i:Int)<(x.length:Int)) from by omega,decide_true,if_true,show (0:Int)<=(i:Int) from by omega,Ab,AO (show i<9223372036854775807 by omega),ih,BI,R1,AA,ADd,hl]
  rw [e,CU,MD]
  generalize (decide (1<=((x.getD i (U,U,0)).1.size:Int))&&decide (((x.getD i (U,U,0)).1.size:Int)<=12))=a
  generalize decide (((x.getD i (U,U,0)).2.1.size:Int)<=20)=b
  generalize (decide (1<=(x.getD i (U,U,0)).2.2)&&decide ((x.getD i (U,U,0)).2.2<=1000000000))=c
  cases a
  ·simp
  cases b
  ·simp
  cases c
  ·simp
  by_cases h0:0<i
  ·rw [hO (by omega) h0]
   simp only [Ab,show ((0:Int)<=((i-1:Nat):Int)) from by omega,show (((i-1:Nat):Int)<(x.length:Int)) from by omega,if_true]
   rcases Bool.eq_false_or_eq_true (Op.bytesLess (x.getD (i-1) (U,U,0)).1.toList (x.getD i (U,U,0)).1.toList) with hb | hb<;>simp only [hb]<;>simp [h0,show i≠0 by omega]
  ·have:i=0:=by omega
   subst this
   simp)) 0 (by omega)
 simpa using this)
theorem RV:∀ a b:List UInt8,(Op.bytesLess a b||a==b)=!Op.bytesLess b a
 | [],[]=>rfl
 | [],_::_=>rfl
 | _::_,[]=>rfl
 | a::l,b::m=>by
  have ih:=RV l m
  simp only [Op.bytesLess]
  by_cases h1:a<b
  ·have h2:¬ b<a:=by exact UInt8.not_lt.2 (UInt8.le_of_lt h1)
   have h3:¬ b=a:=fun h=>by subst h; exact absurd h1 (UInt8.lt_irrefl _)
   simp [h1,h2,h3]
  ·by_cases h2:b<a
   ·have h3:¬ a=b:=fun h=>by subst h; exact absurd h2 (UInt8.lt_irrefl _)
    simp [h1,h2,h3]
   ·have h3:a=b:=UInt8.le_antisymm (UInt8.not_lt.1 h2) (UInt8.not_lt.1 h1)
    subst h3
    simpa [h1] using ih

abbrev Ah:Type:=ByteArray×ByteArray×Int
abbrev xB:Ah:=(U,U,(0:Int))
theorem hP:∀ a:List UInt8,Op.bytesLess a a=false
 | []=>rfl
 | a::l=>by simp [Op.bytesLess,hP l,UInt8.lt_irrefl]
theorem gT:∀ {a b c:List UInt8},Op.bytesLess a b=true->Op.bytesLess b c=true->Op.bytesLess a c=true
 | _,[],_,h,_=>by cases ‹List UInt8› <;> simp [Op.bytesLess] at h
 | _,_::_,[],_,h=>by simp [Op.bytesLess] at h
 | [],_::_,_::_,_,_=>rfl
 | a::x,b::y,c::z,h,g=>by
  simp only [Op.bytesLess,Do,decide_eq_true_eq,AE,beq_iff_eq] at h g ⊢
  rcases h with h | ⟨rfl,h⟩
  ·rcases g with g | ⟨rfl,g⟩
   ·exact .inl (UInt8.lt_trans h g)
   ·exact .inl h
  ·rcases g with g | ⟨rfl,g⟩
   ·exact .inl g
   ·exact .inr ⟨rfl,gT h g⟩
theorem xC:∀ a b:List UInt8,decide (Lib.compareBytes a b<0)=Op.bytesLess a b/\(Lib.compareBytes a b==0)=(a==b)
 | [],[]=>⟨rfl,rfl⟩
 | [],_::_=>⟨rfl,rfl⟩
 | _::_,[]=>⟨rfl,rfl⟩
 | a::l,b::m=>by
  have ih:=xC l m
  simp only [Lib.compareBytes,Op.bytesLess]
  by_cases h1:a<b
  ·have h3:¬ a=b:=fun h=>by subst h; exact absurd h1 (UInt8.lt_irrefl _)
   simp [h1,h3]
  ·by_cases h2:b<a
   ·have h3:¬ a=b:=fun h=>by subst h; exact absurd h2 (UInt8.lt_irrefl _)
    simp [h1,h2,h3]
   ·have h3:a=b:=UInt8.le_antisymm (UInt8.not_lt.1 h2) (UInt8.not_lt.1 h1)
    subst h3
    simpa [h1] using ih
theorem S6 (a:Ah) (k:ByteArray):Kl a k=some (Lib.compareBytes a.1.toList k.toList):=rD (by
 unfold Zt
 rw [me,ByteArray.toList_eq,ByteArray.toList_eq]
 rfl)
def Zz (x:List Ah) (i:Nat) (k:ByteArray):Bool:=match x[i]? with
 | some b=>b.1.toList==k.toList
 | none=>false
def Z0 (k:ByteArray) (b:Ah):Bool:=Op.bytesLess b.1.toList k.toList
def O4 (x:List Ah):Prop:=∀ a b (ha:a<x.length) (hb:b<x.length),a<b->Op.bytesLess x[a].1.toList x[b].1.toList=true
def r5 (x:List Ah) (k:ByteArray) (i j:Nat):Prop:=∀ a (ha:a<x.length),(a<i->Z0 k x[a]=true)/\(j<=a->Z0 k x[a]=false)
theorem AHB {i j:Nat} (h:i+j<=137438953472):IntKind.i64.wrap (Int.fdiv (IntKind.u64.wrap (IntKind.i64.wrap ((i:Int)+(j:Int)))) (2^(min (1:Int).toNat (IntKind.bits .u64))))=(((i+j) / 2:Nat):Int):=by
 have e1:IntKind.i64.wrap ((i:Int)+(j:Int))=((i+j:Nat):Int):=by rw [Aa (by omega)]; omega
 have e2:IntKind.u64.wrap ((i+j:Nat):Int)=((i+j:Nat):Int):=by
  simp only [IntKind.wrap,IntKind.bits,IntKind.signed]
  simp
  omega
 have e3:(2:Int)^(min (1:Int).toNat (IntKind.bits .u64))=2:=by decide
 rw [e1,e2,e3,Int.fdiv_eq_ediv_of_nonneg _ (by omega)]
 rw [Aa (by omega)]
 omega
theorem ABO (x:List Ah) (k:ByteArray) (hx:x.length<=68719476736):∀ (m i j:Nat),j-i<=m->i<=j->j<=x.length ->
  ∃ r:Nat,i<=r/\r<=j/\AR x k (x.length:Int) (i:Int) (j:Int)=some ((r:Int),Zz x r k)/\(O4 x->r5 x k i j->r5 x k r r):=by
 intro m
 induction m with
 | zero =>
  intro i j hm hij hj
  have:i=j:=by omega
  subst this
  refine ⟨i,Nat.le_refl _,Nat.le_refl _,Cb ?_,fun _ h=>h⟩
  unfold BZ
  rw [if_neg (by simp)]
  refine Ew ?_
  unfold Ca Zz
  by_cases h:i<x.length
  ·simp only [show ((i:Int)<(x.length:Int)) from by omega,decide_true,if_true,show (0:Int)<=(i:Int) from by omega,Ab,AW h,S6,AA,(xC _ _).2,List.getElem?_eq_getElem h]
  ·rw [if_neg (by simp; omega),Dn (by omega)]
 | succ m ih =>
  intro i j hm hij hj
  by_cases hlt:i<j
  ·have hmid:i<=(i+j) / 2/\(i+j) / 2<j:=by omega
   generalize hh:(i+j) / 2=h at hmid
   have hb:h<x.length:=by omega
   have step:∀ r,(if Z0 k x[h]=true then AR x k (x.length:Int) ((h+1:Nat):Int) (j:Int) else AR x k (x.length:Int) (i:Int) (h:Int))=some r->AR x k (x.length:Int) (i:Int) (j:Int)=some r:=fun r hr=>Cb (by
    unfold BZ
    simp only [show ((i:Int)<(j:Int)) from by omega,decide_true,if_true,AHB (show i+j<=137438953472 by omega),hh,show ¬ ((1:Int)<0) from by decide,if_false,show ((0:Int)<=(h:Int)) from by omega,show ((h:Int)<(x.length:Int)) from by omega,Ab,AW hb,S6,AA,(xC _ _).1,AO (show h<9223372036854775807 by omega)]
    exact hr)
   cases hl:Z0 k x[h] with
   | true =>
    obtain ⟨r,h1,h2,h3,h4⟩:=ih (h+1) j (by omega) (by omega) hj
    refine ⟨r,by omega,h2,step _ (by rw [hl]; exact h3),fun ho hc=>h4 ho fun a ha=>⟨fun hlt=>?_,(hc a ha).2⟩⟩
    by_cases e:a=h
    ·subst e; exact hl
    ·exact gT (ho a h ha hb (by omega)) hl
   | false =>
    obtain ⟨r,h1,h2,h3,h4⟩:=ih i h (by omega) hmid.1 (by omega)
    refine ⟨r,h1,by omega,step _ (by rw [hl]; exact h3),fun ho hc=>h4 ho fun a ha=>⟨(hc a ha).1,fun hle=>?_⟩⟩
    by_cases e:a=h
    ·subst e; exact hl
    ·cases q:Z0 k x[a] with
     | false=>rfl
     | true =>
      have:=gT (ho h a hb ha (by omega)) q
      rw [show Op.bytesLess x[h].1.toList k.toList=false from hl] at this
      cases this
  ·have:i=j:=by omega
   subst this
   exact ih i i (by omega) (Nat.le_refl _) hj
theorem ADe (x:List Ah) (k:ByteArray) (hx:x.length<=68719476736):∃ r:Nat,r<=x.length/\Bj x k ()=some ((r:Int),Zz x r k)/\(O4 x->r5 x k r r):=by
 obtain ⟨r,_,h2,h3,h4⟩:=ABO x k hx x.length 0 x.length (by omega) (by omega) (Nat.le_refl _)
 refine ⟨r,h2,FZ (by unfold Cn; exact h3),fun ho=>h4 ho fun a ha=>⟨fun h=>by omega,fun h=>by omega⟩⟩
theorem gU {x:List Ah}:∀ (m i:Nat),CU x i m=true->∀ a,i<=a->a<i+m->a≠0->Op.bytesLess (x.getD (a-1) xB).1.toList (x.getD a xB).1.toList=true
 | 0,i,_,a,h1,h2,_=>by omega
 | m+1,i,h,a,h1,h2,h0=>by
  simp only [CU,AE,Do,decide_eq_true_eq] at h
  obtain ⟨⟨_,h3⟩,h4⟩:=h
  by_cases e:a=i
  ·subst e
   exact h3.resolve_left h0
  ·exact gU m (i+1) h4 a (by omega) (by omega) h0
theorem gV {x:List Ah} (h:CU x 0 x.length=true):O4 x:=by
 have st:=gU _ _ h
 have:∀ d a (ha:a+d+1<x.length),Op.bytesLess (x.getD a xB).1.toList (x.getD (a+d+1) xB).1.toList=true:=by
  intro d
  induction d with
  | zero=>intro a ha; exact st (a+1) (by omega) (by omega) (by omega)
  | succ d ih =>
   intro a ha
   exact gT (ih a (by omega)) (st (a+(d+1)+1) (by omega) (by omega) (by omega))
 intro a b ha hb hab
 have:=this (b-a-1) a (by omega)
 rw [show a+(b-a-1)+1=b by omega,AW ha,AW hb] at this
 exact this
theorem ABP {x:List Ah} {k:ByteArray} {r:Nat} (hr:r<=x.length) (h:r5 x k r r):x.take r=x.filter (Z0 k)/\x.drop r=x.filter (fun b=>!Z0 k b):=by
 have e1:(x.take r).filter (Z0 k)=x.take r:=List.filter_eq_self.2 fun b hb=>by
  obtain ⟨a,ha,rfl⟩:=EX hb
  rw [List.length_take] at ha
  rw [List.getElem_take]
  exact (h a (by omega)).1 (by omega)
 have e2:(x.drop r).filter (Z0 k)=[]:=List.filter_eq_nil_iff.2 fun b hb=>by
  obtain ⟨a,ha,rfl⟩:=EX hb
  rw [List.length_drop] at ha
  rw [List.getElem_drop]
  have:=(h (r+a) (by omega)).2 (by omega)
  simp [this]
 have e3:(x.take r).filter (fun b=>!Z0 k b)=[]:=List.filter_eq_nil_iff.2 fun b hb=>by
  obtain ⟨a,ha,rfl⟩:=EX hb
  rw [List.length_take] at ha
  rw [List.getElem_take]
  have:=(h a (by omega)).1 (by omega)
  simp [this]
 have e4:(x.drop r).filter (fun b=>!Z0 k b)=x.drop r:=List.filter_eq_self.2 fun b hb=>by
  obtain ⟨a,ha,rfl⟩:=EX hb
  rw [List.length_drop] at ha
  rw [List.getElem_drop]
  have:=(h (r+a) (by omega)).2 (by omega)
  simp [this]
 have f1:x.filter (Z0 k)=(x.take r).filter (Z0 k)++(x.drop r).filter (Z0 k):=by rw [<- List.filter_append,List.take_append_drop]
 have f2:x.filter (fun b=>!Z0 k b)=(x.take r).filter (fun b=>!Z0 k b)++(x.drop r).filter (fun b=>!Z0 k b):=by rw [<- List.filter_append,List.take_append_drop]
 rw [f1,f2,e1,e2,e3,e4]
 simp
theorem AB8 {x:List Ah} {k:ByteArray} {r:Nat} (ho:O4 x) (h:r5 x k r r) (j:Nat) (hj:j<x.length) (e:x[j].1.toList=k.toList):j=r:=by
 rcases Nat.lt_trichotomy j r with g | g | g
 ·have:=(h j hj).1 g
  simp only [Z0,e,hP] at this
  cases this
 ·exact g
 ·have h1:=ho r j (by omega) hj g
  have h2:=(h r (by omega)).2 (Nat.le_refl _)
  rw [e] at h1
  rw [show Z0 k x[r]=true from h1] at h2
  cases h2
def gW (x:List Ah) (a:Ah):Bool:=x.any fun b=>(b.1.toList==a.1.toList)&&decide (b.2.2>=a.2.2)
def TO (k:ByteArray) (b:Ah):Bool:=!(Op.bytesLess b.1.toList k.toList||(b.1.toList==k.toList))
def Z1 (x:List Ah) (a:Ah):List Ah:=x.filter (Z0 a.1)++[a]++x.filter (TO a.1)
def BN (x:List Ah):Bool:=CU x 0 x.length
def D4 (x:List Ah) (a:Ah):List Ah:=if gW x a=true then x else if BN x=true then (if BN (Z1 x a)=true then Z1 x a else x) else x
theorem AB9 {x:List Ah} {k:ByteArray} {r:Nat} (hr:r<=x.length) (h:r5 x k r r):x.filter (TO k)=(x.drop r).filter fun b=>!(b.1.toList==k.toList):=by
 rw [(ABP hr h).2,List.filter_filter]
 congr 1
 funext b
 simp only [TO,Z0,Bool.not_or]
 exact Bool.and_comm _ _
theorem O5 (x:List Ah) (a:Ah) (hx:x.length<=34359738367):KE x a=some (D4 x a):=wY (by
 have J4:∀ same out:List Ah,out.length<=maxLen->Ov x a same out=some (if BN x=true then (if BN out=true then out else same) else same):=fun same out ho=>oD (by
  unfold Xb BN
  rw [Ju x (by unfold maxLen; omega),Ju out ho]
  cases CU x 0 x.length<;>cases CU out 0 out.length<;>simp)
 have L3:∀ same out:List Ah,out.length<=x.length+1->E4 x ((0:Nat):Int) a same out=some (if BN x=true then (if BN (out++(x.drop 0).filter (TO a.1))=true then out++(x.drop 0).filter (TO a.1) else same) else same):=by
  intro same out ho
  refine Jy (n:=x.length) (P:=fun i=>∀ out:List Ah,out.length<=x.length+1+i->E4 x (i:Int) a same out=some (if BN x=true then (if BN (out++(x.drop i).filter (TO a.1))=true then out++(x.drop i).filter (TO a.1) else same) else same)) (fun out ho=>Xd ?_) (fun i hi ih out ho=>Xd ?_) 0 (by omega) out ho
  ·unfold Ox
   rw [if_neg (by simp),J4 same out (by unfold maxLen; omega)]
   simp
  ·unfold Ox
   simp only [show ((i:Int)<(x.length:Int)) from by omega,decide_true,if_true,show (0:Int)<=(i:Int) from by omega,Ab,AW hi,AO (show i<9223372036854775807 by omega)]
   rw [Am hi,List.filter_cons]
   change (if TO a.1 x[i]=true then _ else _)=_
   by_cases hh:TO a.1 x[i]=true
   ·rw [if_pos hh,if_pos (by simp; omega),ih _ (by simp; omega),if_pos hh,Bf]
    rfl
   ·rw [if_neg hh,ih _ (by omega),if_neg hh]
 have J2:∀ same out:List Ah,out.length<=x.length->Ow x a same out=some (if BN x=true then (if BN (out++[a]++x.filter (TO a.1))=true then out++[a]++x.filter (TO a.1) else same) else same):=fun same out ho=>oE (by
  unfold Xc
  rw [if_pos (by simp; omega)]
  have:=L3 same (out++[a]) (by simp; omega)
  simpa using this)
 have L0:∀ same:List Ah,E5 x ((0:Nat):Int) a same []=some (if gW (x.drop 0) a=true then same else if BN x=true then (if BN (([]++(x.drop 0).filter (Z0 a.1))++[a]++x.filter (TO a.1))=true then ([]++(x.drop 0).filter (Z0 a.1))++[a]++x.filter (TO a.1) else same) else same):=by
  intro same
  refine Jy (n:=x.length) (P:=fun i=>∀ out:List Ah,out.length<=i->E5 x (i:Int) a same out=some (if gW (x.drop i) a=true then same else if BN x=true then (if BN ((out++(x.drop i).filter (Z0 a.1))++[a]++x.filter (TO a.1))=true then (out++(x.drop i).filter (Z0 a.1))++[a]++x.filter (TO a.1) else same) else same)) (fun out ho=>Xe ?_) (fun i hi ih out ho=>Xe ?_) 0 (by omega) [] (by simp)
  ·unfold Oy
   rw [if_neg (by simp),J2 same out ho]
   simp [gW]
  ·unfold Oy
   simp only [show ((i:Int)<(x.length:Int)) from by omega,decide_true,if_true,show (0:Int)<=(i:Int) from by omega,Ab,AW hi]
   have J1:∀ out:List Ah,out.length<=i+1->Jq x (i:Int) a same out=some (if gW (x.drop i) a=true then same else if BN x=true then (if BN ((out++(x.drop (i+1)).filter (Z0 a.1))++[a]++x.filter (TO a.1))=true then (out++(x.drop (i+1)).filter (Z0 a.1))++[a]++x.filter (TO a.1) else same) else same):=fun out ho=>oC (by
    unfold Xa
    simp only [show ((i:Int)<(x.length:Int)) from by omega,decide_true,if_true,show (0:Int)<=(i:Int) from by omega,Ab,AW hi,AO (show i<9223372036854775807 by omega),ih out ho]
    rw [Am hi]
    rw [show gW (x[i]::x.drop (i+1)) a=(((x[i].1.toList==a.1.toList)&&decide (x[i].2.2>=a.2.2))||gW (x.drop (i+1)) a) from List.any_cons]
    generalize (x[i].1.toList==a.1.toList)=p
    generalize decide (x[i].2.2>=a.2.2)=q
    cases p<;>cases q<;>simp)
   rw [Am hi,List.filter_cons]
   change (if Z0 a.1 x[i]=true then _ else _)=_
   rw [Am hi] at J1
   by_cases hh:Z0 a.1 x[i]=true
   ·rw [if_pos hh,if_pos (by simp; omega),J1 _ (by simp; omega),if_pos hh]
    simp only [Bf,List.cons_append,List.nil_append]
   ·rw [if_neg hh,J1 _ (by omega),if_neg hh]
 unfold gD
 rw [if_pos (by simp; omega)]
 have:=L0 ([]++x)
 simpa [D4,Z1] using this)
theorem AEs {x:List Ah} {a:Ah} {r:Nat} (hr:r<=x.length) (ho:O4 x) (h:r5 x a.1 r r):gW x a=(Zz x r a.1&&decide ((x.getD r xB).2.2>=a.2.2)):=by
 unfold gW Zz
 by_cases hl:r<x.length
 ·rw [List.getElem?_eq_getElem hl,AW hl]
  rw [Bool.eq_iff_iff,List.any_eq_true]
  simp only [AE,beq_iff_eq,decide_eq_true_eq]
  refine ⟨fun ⟨b,hb,e,hv⟩=>?_,fun ⟨e,hv⟩=>⟨_,BC hl,e,hv⟩⟩
  obtain ⟨j,hj,rfl⟩:=EX hb
  have:=AB8 ho h j hj e
  subst this
  exact ⟨e,hv⟩
 ·rw [Dn (by omega),Bool.false_and,List.any_eq_false]
  intro b hb
  obtain ⟨j,hj,rfl⟩:=EX hb
  intro hc
  simp only [AE,beq_iff_eq] at hc
  have:=AB8 ho h j hj hc.1
  omega
theorem AGG {x:List Ah} {a:Ah} {r:Nat} (hr:r<=x.length) (ho:O4 x) (h:r5 x a.1 r r):Z1 x a=if Zz x r a.1=true then x.set r a else x.take r++[a]++x.drop r:=by
 unfold Z1
 rw [AB9 hr h,<- (ABP hr h).1]
 have hk:∀ (j:Nat) (hj:j<x.length),j≠r->(x[j].1.toList==a.1.toList)=false:=fun j hj hne=>by
  cases q:(x[j].1.toList==a.1.toList) with
  | false=>rfl
  | true=>exact absurd (AB8 ho h j hj (by simpa using q)) hne
 have tail:(x.drop (r+1)).filter (fun b=>!(b.1.toList==a.1.toList))=x.drop (r+1):=List.filter_eq_self.2 fun b hb=>by
  obtain ⟨j,hj,rfl⟩:=EX hb
  rw [List.length_drop] at hj
  rw [List.getElem_drop,hk (r+1+j) (by omega) (by omega)]
  rfl
 by_cases hl:r<x.length
 ·rw [Am hl,List.filter_cons,tail]
  unfold Zz
  rw [List.getElem?_eq_getElem hl]
  cases q:(x[r].1.toList==a.1.toList) with
  | true=>simp [q,List.set_eq_take_append_cons_drop,hl]
  | false=>simp [q]
 ·have:x.drop r=[]:=List.drop_eq_nil_of_le (by omega)
  rw [this]
  unfold Zz
  rw [Dn (by omega)]
  simp
theorem Xo (x:List Ah) (a:Ah) (hx:x.length<=34359738367):OA x a=some (D4 x a):=wo (by
 obtain ⟨r,hr,hs,hc⟩:=ADe x a.1 (by omega)
 have ok:∀ y:List Ah,y.length<=68719476736->F5 y=some (BN y):=fun y hy=>O3 y (by unfold maxLen; omega) RV
 have J1:∀ y:List Ah,y.length<=68719476736->Js x a y=some (if BN y=true then y else x):=fun y hy=>oH (by
  unfold Xg
  rw [ok y hy,BV (by omega)]
  cases BN y<;>simp)
 have hl:Zz x r a.1=true->r<x.length:=fun h=>by
  by_cases hl:r<x.length
  ·exact hl
  ·unfold Zz at h
   rw [Dn (by omega)] at h
   cases h
 have J0:∀ b,BN x=true->Jt x (r:Int) (Zz x r a.1) b a x=some (if BN (Z1 x a)=true then Z1 x a else x):=fun b hok=>oI (by
  unfold Xh
  rw [AGG hr (gV hok) (hc (gV hok))]
  cases hh:Zz x r a.1 with
  | true =>
   have:=hl hh
   simp only [if_true,show (0:Int)<=(r:Int) from by omega,show ((r:Int)<(x.length:Int)) from by omega,Ab]
   rw [J1 _ (by simp; omega)]
  | false =>
   rw [if_neg (by simp),Ld (by simp; omega) hr (by simp),AA,J1 _ (by simp; omega)]
   simp)
 unfold gK
 rw [BV (by omega),AA,hs,AA,ok x (by omega),AA]
 cases hok:BN x with
 | false=>simp [D4,hok]
 | true =>
  have hst:=AEs hr (gV hok) (hc (gV hok))
  have j0:=J0
  unfold D4
  rw [hst,hok]
  cases hh:Zz x r a.1 with
  | false =>
   have:=J0 false hok
   rw [hh] at this
   simp [this]
  | true =>
   have hlr:=hl hh
   have:=J0 false hok
   rw [hh] at this
   simp only [if_true,show (0:Int)<=(r:Int) from by omega,show ((r:Int)<(x.length:Int)) from by omega,Ab,Bool.true_and]
   cases q:decide ((x.getD r xB).2.2>=a.2.2) with
   | true=>simp
   | false=>simp [this])

abbrev Iv:Type:=List Int×Int×Int
def YG (d:Iv):Prop:=0<=d.2.1/\d.1.length<=maxLen
theorem r6 (a:Int):0<=NL .i64 a 255/\NL .i64 a 255<=255:=by
 unfold NL
 have h:(BitVec.ofInt (IntKind.bits .i64) a &&& BitVec.ofInt (IntKind.bits .i64) 255).toNat<=255:=by
  rw [BitVec.toNat_and]
  refine Nat.le_trans Nat.and_le_right ?_
  decide
 rw [Aa (by omega)]
 omega
theorem HG (d:Iv) (h:YG d):∃ b d',F4 d=some (b,d')/\YG d'/\0<=b/\b<=255:=by
 have hm:d.1.length<=9223372036854775807:=h.2
 have hp:=h.1
 suffices g:∃ b d',U2 d=some (b,d')/\YG d'/\0<=b/\b<=255 from g.imp fun b g=>g.imp fun d' g=>⟨wP g.1,g.2⟩
 unfold U2
 rw [if_neg (by omega),if_neg (by omega)]
 by_cases h1:d.2.1<(d.1.length:Int)
 ·rw [if_pos (by simpa using h1),if_pos hp,if_pos h1]
  refine ⟨_,_,rfl,⟨?_,h.2⟩,r6 _⟩
  show 0<=IntKind.i64.wrap (d.2.1+1)
  rw [Aa (by omega)]
  omega
 ·rw [if_neg (by simpa using h1)]
  exact ⟨_,_,rfl,h,r6 _⟩
theorem Be (n:Int) (d:Iv) (h:YG d):∃ v d',CM n d=some (v,d')/\YG d'/\0<=v/\(0<n->v<n):=by
 suffices g:∃ b d',Rq n d=some (b,d')/\YG d'/\0<=b/\(0<n->b<n) from g.imp fun b g=>g.imp fun d' g=>⟨tB g.1,g.2⟩
 unfold Rq
 by_cases h1:n<=0
 ·exact ⟨0,d,by rw [if_pos (by simpa using h1)],h,by omega,by omega⟩
 ·rw [if_neg (by simpa using h1)]
  by_cases h2:n<=256
  ·obtain ⟨b,d1,e1,k1,b0,b1⟩:=HG d h
   refine ⟨_,_,by rw [if_pos (by simpa using h2),e1,AA,if_neg (by omega)],k1,Int.tmod_nonneg _ b0,fun _=>Int.tmod_lt_of_pos _ (by omega)⟩
  ·obtain ⟨b1,d1,e1,k1,b10,b11⟩:=HG d h
   obtain ⟨b2,d2,e2,k2,b20,b21⟩:=HG d1 k1
   obtain ⟨b3,d3,e3,k3,b30,b31⟩:=HG d2 k2
   obtain ⟨b4,d4,e4,k4,b40,b41⟩:=HG d3 k3
   refine ⟨_,_,by rw [if_neg (by simpa using h2),e1,AA,e2,AA,e3,AA,e4,AA,if_neg (by omega)],k4,Int.tmod_nonneg _ ?_,fun _=>Int.tmod_lt_of_pos _ (by omega)⟩
   rw [Aa (n:=b1*16777216) (by omega),Aa (n:=b2*65536) (by omega),Aa (n:=b3*256) (by omega),Aa (n:=b1*16777216+b2*65536) (by omega),Aa (n:=b1*16777216+b2*65536+b3*256) (by omega),Aa (by omega)]
   omega
theorem E6 (n:Int) (d:Iv) (h:YG d):∃ v d',Cy n d=some (v,d')/\YG d':=by
 obtain ⟨v,d',e,k,_⟩:=Be n d h
 exact ⟨_,_,wD (by unfold fV; rw [e,AA]),k⟩
theorem RW (x:List Int) (hx:0<x.length) (d:Iv) (h:YG d):∃ v d',JO x d=some (v,d')/\YG d'/\v∈x:=by
 obtain ⟨v,d',e,k,v0,v1⟩:=Be (x.length:Int) d h
 have v1:=v1 (by omega)
 have hv:v.toNat<x.length:=by omega
 exact ⟨_,_,n8 (by unfold XW; rw [e,AA,if_pos v0,if_pos v1]),k,by rw [AW hv]; exact BC hv⟩
theorem rF (x:List Int) (h:x.length<=maxLen):∃ d,X3 x=some d/\YG d:=by
 have hm:x.length<=9223372036854775807:=h
 have key:=Jy (n:=x.length) (P:=fun i=>∀ a,∃ d,Km x a (i:Int)=some d/\YG d) (fun a=>⟨(x,0,a),P6 (by
  unfold Kn
  rw [if_neg (by simp)]),⟨Int.le_refl _,h⟩⟩) (fun i hi ih a=>by
  by_cases h4:(i:Int)<4000
  ·obtain ⟨d,e,k⟩:=ih (NL .i64 (IntKind.i64.wrap ((IntKind.i64.wrap ((IntKind.i64.wrap (a*(131:Int)))+(IntKind.i64.wrap (x.getD (i:Int).toNat (0:Int)))))+(7:Int))) (1073741823:Int))
   refine ⟨d,P6 ?_,k⟩
   unfold Kn
   rw [if_pos (by simpa using hi),if_pos (by simpa using h4)]
   refine p9 ?_
   unfold ZK
   rw [if_pos (by omega),if_pos (by omega),AO (show i<9223372036854775807 by omega)]
   exact e
  ·refine ⟨(x,0,a),P6 ?_,⟨Int.le_refl _,h⟩⟩
   unfold Kn
   rw [if_pos (by simpa using hi),if_neg (by simpa using h4)]) 0 (by omega)
 obtain ⟨d,e,k⟩:=key (IntKind.i64.wrap ((14301:Int)+(x.length:Int)))
 exact ⟨d,yK e,k⟩

theorem YE {x:List Ah}:∀ (m i:Nat),i+m=x.length->(CU x i m=true↔(∀ a (ha:a<x.length),i<=a->MD x[a]=true/\(a≠0->Op.bytesLess (x.getD (a-1) xB).1.toList x[a].1.toList=true))/\x.length<=12)
 | 0,i,h=>by
  simp only [CU,decide_eq_true_eq]
  refine ⟨fun h2=>⟨fun a ha hi=>by omega,by omega⟩,fun h2=>by have:=h2.2; omega⟩
 | m+1,i,h=>by
  have hi:i<x.length:=by omega
  rw [CU,AE,AE,YE m (i+1) (by omega),AW hi]
  simp only [Do,decide_eq_true_eq]
  constructor
  ·rintro ⟨⟨h1,h2⟩,h3,h4⟩
   refine ⟨fun a ha hia=>?_,h4⟩
   by_cases e:a=i
   ·subst e
    exact ⟨h1,fun h0=>h2.resolve_left h0⟩
   ·exact h3 a ha (by omega)
  ·rintro ⟨h3,h4⟩
   refine ⟨⟨(h3 i hi (Nat.le_refl _)).1,?_⟩,fun a ha hia=>h3 a ha (by omega),h4⟩
   by_cases e:i=0
   ·exact .inl e
   ·exact .inr ((h3 i hi (Nat.le_refl _)).2 e)
theorem IL {x:List Ah}:BN x=true↔(∀ b∈x,MD b=true)/\O4 x/\x.length<=12:=by
 constructor
 ·intro h
  have h1:=(YE x.length 0 (by omega)).1 h
  refine ⟨fun b hb=>?_,gV h,h1.2⟩
  obtain ⟨a,ha,rfl⟩:=EX hb
  exact (h1.1 a ha (Nat.zero_le _)).1
 ·rintro ⟨h1,h2,h3⟩
  refine (YE x.length 0 (by omega)).2 ⟨fun a ha _=>⟨h1 _ (BC ha),fun h0=>?_⟩,h3⟩
  rw [AW (show a-1<x.length by omega)]
  exact h2 (a-1) a (by omega) ha (by omega)
theorem y_ {x:List Ah}:O4 x↔x.Pairwise fun b c=>Op.bytesLess b.1.toList c.1.toList=true:=by
 rw [List.pairwise_iff_getElem]
 rfl
theorem xD {x:List Ah} (a:Ah) (h:O4 x):O4 (Z1 x a):=by
 rw [y_] at h ⊢
 have lo:∀ b∈x.filter (Z0 a.1),Op.bytesLess b.1.toList a.1.toList=true:=fun b hb=>(List.mem_filter.1 hb).2
 have hg:∀ b∈x.filter (TO a.1),Op.bytesLess a.1.toList b.1.toList=true:=fun b hb=>by
  have:=(List.mem_filter.1 hb).2
  rw [TO,RV] at this
  simpa using this
 unfold Z1
 rw [List.pairwise_append,List.pairwise_append]
 refine ⟨⟨h.filter _,List.pairwise_singleton _ _,fun b hb c hc=>?_⟩,h.filter _,fun b hb c hc=>?_⟩
 ·rw [Bq] at hc
  subst hc
  exact lo b hb
 ·rcases CV.1 hb with hb | hb
  ·exact gT (lo b hb) (hg c hc)
  ·rw [Bq] at hb
   subst hb
   exact hg c hc
theorem AEt (x:List Ah) (a:Ah):(Z1 x a).length<=x.length+1:=by
 have h1:(x.filter (TO a.1)).length<=(x.filter fun b=>!Z0 a.1 b).length:=by
  rw [<- List.countP_eq_length_filter,<- List.countP_eq_length_filter]
  refine List.countP_mono_left fun b _ hb=>?_
  simp only [TO,Z0,EY,Bool.or_eq_false_iff] at hb ⊢
  exact hb.1
 have h2:(x.filter (Z0 a.1)).length+(x.filter fun b=>!Z0 a.1 b).length=x.length:=by
  rw [<- List.countP_eq_length_filter,<- List.countP_eq_length_filter]
  have:=List.length_eq_countP_add_countP (Z0 a.1) (l:=x)
  rw [this]
  congr 2
  funext b
  cases Z0 a.1 b<;>rfl
 simp only [Z1,List.length_append,List.length_cons,List.length_nil]
 omega
theorem AEu {x:List Ah} {a:Ah}:a∈Z1 x a:=by simp [Z1]
theorem ABQ {x:List Ah} {a b:Ah} (h:b∈Z1 x a):b=a\/b∈x:=by
 simp only [Z1,CV,List.mem_filter,Bq] at h
 rcases h with (h | h) | h
 ·exact .inr h.1
 ·exact .inl h
 ·exact .inr h.1
theorem AB_ {x:List Ah} (ho:O4 x) {b:Ah} (hb:b∈x):DX x b.1=b:=by
 obtain ⟨j,hj,rfl⟩:=EX hb
 have:x.find? (fun a=>a.1.toList==x[j].1.toList)=some x[j]:=by
  rw [List.find?_eq_some_iff_getElem]
  refine ⟨by simp,j,hj,rfl,fun i hi=>?_⟩
  have:=ho i j (by omega) hj hi
  cases q:(x[i].1.toList==x[j].1.toList) with
  | false=>rfl
  | true =>
   rw [beq_iff_eq] at q
   rw [q,hP] at this
   cases this
 unfold DX
 rw [this]
 rfl
theorem ABR (a:Ah):dy (.pair .str (.pair .str (.int .i64))) a a=true:=by simp [dy]
theorem HH (x:List ByteArray) (hx:0<x.length) (d:Iv) (h:YG d):∃ v d',F3 x d=some (v,d')/\YG d'/\v∈x:=by
 obtain ⟨v,d',e,k,v0,v1⟩:=Be (x.length:Int) d h
 have v1:=v1 (by omega)
 have hv:v.toNat<x.length:=by omega
 exact ⟨_,_,wE (by unfold fW; rw [e,AA,if_pos v0,if_pos v1]),k,by rw [AW hv]; exact BC hv⟩
theorem xE {x:List Ah} {a:Ah} (h:BN x=true):BN (D4 x a)=true:=by
 unfold D4
 rw [if_pos h]
 split
 ·exact h
 ·split
  ·assumption
  ·exact h
theorem ABS (x:List Ah) (a:Ah):(D4 x a).length<=x.length+1:=by
 have:=AEt x a
 unfold D4
 (repeat' split)<;>omega



theorem DR (x:List Int) (n:Int) (h:x.length<=maxLen):Ec x n=some (x.contains n):=AAL (by
 have hm:x.length<=9223372036854775807:=h
 unfold nq
 have:=Jy (n:=x.length) (P:=fun i=>L9 x n (i:Int)=some ((x.drop i).contains n)) (cZ (by
  unfold Rt
  rw [if_neg (by simp),List.drop_length]
  rfl)) (fun i hi ih=>cZ (by
  unfold Rt
  simp only [show ((i:Int)<(x.length:Int)) from by omega,decide_true,if_true,show (0:Int)<=(i:Int) from by omega,Ab,AW hi,AO (show i<9223372036854775807 by omega)]
  rw [Am hi,List.contains_cons,ih]
  by_cases e:x[i]=n
  ·subst e
   simp
  ·simp [e,Ne.symm e])) 0 (by omega)
 simpa using this)
theorem AHC (x:List Int) (i:Nat) (hi:i<x.length) (h:x.length<=maxLen):∃ r,Dw x x[i]=some r/\((r=(i:Int))↔x[i]∉x.take i):=by
 have hm:x.length<=9223372036854775807:=h
 have key:=Jy (n:=i) (P:=fun k=>∃ r,C9 x x[i] (x.length:Int) (k:Int)=some r/\(k:Int)<=r/\((r=(i:Int))↔∀ m (hm:m<i),k<=m->x[m]≠x[i])) ⟨i,CT (by
  unfold Bx
  simp only [show ((i:Int)<(x.length:Int)) from by omega,decide_true,if_true,show (0:Int)<=(i:Int) from by omega,Ab,AW hi]
  simp),by omega,⟨fun _ m hm hk=>by omega,fun _=>rfl⟩⟩ (fun k hk ⟨r,hr,hkr,hiff⟩=>by
  have hk2:k<x.length:=by omega
  by_cases e:x[i]=x[k]
  ·refine ⟨k,CT ?_,by omega,⟨fun he=>by omega,fun hall=>absurd e.symm (hall k hk (by omega))⟩⟩
   unfold Bx
   simp only [show ((k:Int)<(x.length:Int)) from by omega,decide_true,if_true,show (0:Int)<=(k:Int) from by omega,Ab,AW hk2]
   rw [if_pos (by simpa using e)]
  ·refine ⟨r,CT ?_,by omega,hiff.trans ⟨fun hall m hm hkm=>?_,fun hall m hm hkm=>hall m hm (by omega)⟩⟩
   ·unfold Bx
    simp only [show ((k:Int)<(x.length:Int)) from by omega,decide_true,if_true,show (0:Int)<=(k:Int) from by omega,Ab,AW hk2,AO (show k<9223372036854775807 by omega)]
    rw [if_neg (by simpa using e)]
    exact hr
   ·rcases CF k m with h1 | h1
    ·exact hall m hm h1
    ·have:m=k:=by omega
     subst this
     exact fun h=>e h.symm) 0 (by omega)
 obtain ⟨r,hr,_,hiff⟩:=key
 refine ⟨r,On hr,hiff.trans ⟨fun hall hmem=>?_,fun hn m hm _ he=>hn ?_⟩⟩
 ·obtain ⟨m,hm,he⟩:=List.mem_take_iff_getElem.1 hmem
  exact hall m (by omega) (by omega) he
 ·exact List.mem_take_iff_getElem.2 ⟨m,by omega,he⟩
def I3 (v:List Int) (i:Nat):Nat->Bool
 | 0=>true
 | k+1=>(decide (1<=v.getD i 0)&&decide (v.getD i 0<=6))&&!(v.take i).contains (v.getD i 0)&&I3 v (i+1) k
def bA (v:List Int):Bool:=(decide (1<=(v.length:Int))&&decide ((v.length:Int)<=4))&&I3 v 0 v.length
def B_ (x:List (List Int)) (n:Nat):List (List Int)->Bool
 | []=>decide (1<=(n:Int))&&decide ((n:Int)<=9)
 | v::r=>bA v&&B_ x n r
theorem oN (v:List Int) (h:v.length<=maxLen):UG v=some (bA v):=wH (by
 have hm:v.length<=9223372036854775807:=h
 unfold fa bA
 simp only [BX,AA]
 have:=Jy (n:=v.length) (P:=fun i=>Jf v (i:Int)=some (I3 v i (v.length-i))) (XB (by
  unfold Oa
  rw [if_neg (by simp),Nat.sub_self]
  rfl)) (fun i hi ih=>XB (by
  unfold Oa
  have e:v.length-i=(v.length-(i+1))+1:=by omega
  rw [e,I3]
  simp only [show ((i:Int)<(v.length:Int)) from by omega,show ((i:Int)<=(v.length:Int)) from by omega,decide_true,if_true,show (0:Int)<=(i:Int) from by omega,Ab,BX,AA,AO (show i<9223372036854775807 by omega),ih,Int.toNat_zero,List.drop_zero,Int.le_refl,
   DR (v.take i) _ (by rw [List.length_take]; omega)]
  generalize (decide (1<=v.getD i 0)&&decide (v.getD i 0<=6))=a
  generalize (v.take i).contains (v.getD i 0)=b
  cases a<;>cases b<;>simp)) 0 (by omega)
 simp only [Int.ofNat_zero,Nat.sub_zero] at this
 generalize (decide (1<=(v.length:Int))&&decide ((v.length:Int)<=4))=a
 cases a
 ·simp
 ·simpa using this)
theorem Xp (x:List (List Int)) (h:x.length<=maxLen) (ho:∀ a∈x,a.length<=maxLen):DK x=some (B_ x x.length x):=v_ (by
 have hm:x.length<=9223372036854775807:=h
 unfold fQ
 exact Jy (n:=x.length) (P:=fun i=>Jb x (i:Int)=some (B_ x x.length (x.drop i))) (W4 (by
  unfold OP
  rw [if_neg (by simp),List.drop_length,BX]
  rfl)) (fun i hi ih=>W4 (by
  unfold OP
  simp only [show ((i:Int)<(x.length:Int)) from by omega,decide_true,if_true,show (0:Int)<=(i:Int) from by omega,Ab,AW hi,oN x[i] (ho _ (BC _)),AA,AO (show i<9223372036854775807 by omega),ih]
  rw [Am hi,B_]
  generalize bA x[i]=a
  cases a<;>simp)) 0 (by omega))
theorem Xq (x:List (List Int)) (h:x.length<=maxLen) (ho:∀ a∈x,a.length<=maxLen):DL x=some (B_ x x.length x):=wI (by
 have hm:x.length<=9223372036854775807:=h
 unfold fb
 exact Jy (n:=x.length) (P:=fun i=>Jh x x (x.length:Int) (i:Int)=some (B_ x x.length (x.drop i))) (XF (by
  unfold Od
  rw [if_neg (by simp),List.drop_length,BI]
  rfl)) (fun i hi ih=>XF (by
  unfold Od
  simp only [show ((i:Int)<(x.length:Int)) from by omega,decide_true,if_true,show (0:Int)<=(i:Int) from by omega,Ab,AW hi]
  rw [Am hi,B_]
  have hv:=ho x[i] (BC _)
  generalize x[i]=v at hv
  have hvm:v.length<=9223372036854775807:=hv
  have wj:Ob x v x (x.length:Int) (i:Int)=some ((decide (1<=(v.length:Int))&&decide ((v.length:Int)<=4))&&B_ x x.length (x.drop (i+1))):=nV (by
   unfold XD
   rw [BI,AA,AO (show i<9223372036854775807 by omega),ih]
   generalize (decide (1<=(v.length:Int))&&decide ((v.length:Int)<=4))=a
   cases a<;>simp)
  have:=Jy (n:=v.length) (P:=fun j=>Jg x v x (x.length:Int) (i:Int) v (v.length:Int) (j:Int)=some (I3 v j (v.length-j)&&((decide (1<=(v.length:Int))&&decide ((v.length:Int)<=4))&&B_ x x.length (x.drop (i+1))))) (XE (by
   unfold Oc
   rw [if_neg (by simp),Nat.sub_self,wj]
   rfl)) (fun j hj ihj=>XE (by
   unfold Oc
   have e:v.length-j=(v.length-(j+1))+1:=by omega
   obtain ⟨r,hr,hiff⟩:=AHC v j hj hv
   rw [e,I3]
   simp only [show ((j:Int)<(v.length:Int)) from by omega,decide_true,if_true,show (0:Int)<=(j:Int) from by omega,Ab,IC,AA,AO (show j<9223372036854775807 by omega),ihj,AW hj,hr]
   have hb:(r != (j:Int))=(v.take j).contains v[j]:=by
    by_cases e2:r=(j:Int)
    ·have:=hiff.1 e2
     simp [e2,this]
    ·have:v[j]∈v.take j:=Classical.byContradiction fun hn=>e2 (hiff.2 hn)
     simp [e2,this]
   rw [hb]
   generalize (decide (1<=v[j])&&decide (v[j]<=6))=a
   generalize (v.take j).contains v[j]=b
   cases a<;>cases b<;>simp)) 0 (by omega)
  simp only [Int.ofNat_zero,Nat.sub_zero] at this
  unfold bA
  refine Eq.trans this ?_
  congr 1
  generalize I3 v 0 v.length=a
  generalize (decide (1<=(v.length:Int))&&decide ((v.length:Int)<=4))=b
  cases a<;>cases b<;>simp)) 0 (by omega))
end Go.Proofs.YtfcgblnlopemkaaGreatDoor.Core
