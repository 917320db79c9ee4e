/- Part of the proof: see the last text of the claim. -/
import Derived.Test.YthkckbidcpmckaaGreatDoorInsQ
import Derived.Test.YthkckbidcpmckaaGreatDoorSrtQ
import Derived.Test.YthkckbidcpmckaaGreatDoorShQ
import Derived.KernelRfl
import Derived.Test.YthkckbidcpmckaaGreatDoorRows
set_option linter.all false
namespace Go.Proofs.YthkckbidcpmckaaGreatDoor
open Go.Fx Go.Sh
set_option maxRecDepth 100000
set_option linter.unusedSectionVars false
def emS:Value:= .string ⟨#[]⟩
def tab:List (Nat×TD):= [(3, .sc (.int .i64 0)),
 (4, .sc (.bool false)),
 (5, .sc (.int .u8 0)),
 (9, .sc emS),
 (22, .sl 116 4),
 (23, .sl 3 1),
 (25, .st [(some 1, .slice none 0 0),(none, .int .i64 0),(some 1, .slice none 0 0),(none, .int .i64 0)] [(0,1),(1,1),(2,1),(3,1)]),
 (26, .sl 121 2),
 (28, .st [(none, .int .i64 0),(none, .int .i64 0)] [(0,1),(1,1)]),
 (29, .sl 125 3),
 (30, .sl 94 3),
 (32, .st [(some 4, .slice none 0 0),(some 1, .slice none 0 0),(none, .int .i64 0),(some 1, .slice none 0 0),(none, .int .i64 0),(some 2, .slice none 0 0),(none, .int .i64 0),(none, .int .i64 0),(some 3, .slice none 0 0),(none, .bool false),(some 3, .slice none 0 0),(none, .int .i64 0),(none, .int .i64 0)] [(0,1),(1,4),(5,1),(6,2),(8,1),(9,1),(10,1),(11,1),(12,1)]),
 (34, .sl 98 4),
 (35, .st [(some 1, .slice none 0 0),(none, .int .i64 0),(some 1, .slice none 0 0),(none, .int .i64 0)] [(0,1),(1,1),(2,1),(3,1)]),
 (36, .sl 119 2),
 (37, .st [(none, .int .i64 0),(none, .int .i64 0)] [(0,1),(1,1)]),
 (38, .sl 123 3),
 (39, .sl 126 3),
 (41, .st [(some 4, .slice none 0 0),(some 1, .slice none 0 0),(none, .int .i64 0),(some 1, .slice none 0 0),(none, .int .i64 0),(some 2, .slice none 0 0),(none, .int .i64 0),(none, .int .i64 0),(some 3, .slice none 0 0),(none, .bool false),(some 3, .slice none 0 0),(none, .int .i64 0),(none, .int .i64 0)] [(0,1),(1,4),(5,1),(6,2),(8,1),(9,1),(10,1),(11,1),(12,1)]),
 (53, .sl 9 1),
 (60, .st [(none, .int .i64 0),(none, .int .i64 0),(none, .int .i64 0),(none, .bool false)] [(0,1),(1,1),(2,1),(3,1)]),
 (94, .st [(none, .int .i64 0),(some 1, .slice none 0 0),(none, .int .i64 0)] [(0,1),(1,1),(2,1)]),
 (98, .st [(none, .int .i64 0),(none, .int .i64 0),(none, .int .i64 0),(none, .int .i64 0)] [(0,1),(1,1),(2,1),(3,1)]),
 (110, .st [(none, .int .i64 0),(none, .int .i64 0),(none, .int .i64 0),(none, .int .i64 0),(none, .int .i64 0)] [(0,1),(1,1),(2,1),(3,1),(4,1)]),
 (116, .st [(none, .int .i64 0),(none, .int .i64 0),(none, .int .i64 0),(none, .int .i64 0)] [(0,1),(1,1),(2,1),(3,1)]),
 (119, .st [(none, .int .i64 0),(none, .int .i64 0)] [(0,1),(1,1)]),
 (121, .st [(none, .int .i64 0),(none, .int .i64 0)] [(0,1),(1,1)]),
 (123, .st [(none, .int .i64 0),(none, .int .i64 0),(none, .bool false)] [(0,1),(1,1),(2,1)]),
 (125, .st [(none, .int .i64 0),(none, .int .i64 0),(none, .bool false)] [(0,1),(1,1),(2,1)]),
 (126, .st [(none, .int .i64 0),(some 1, .slice none 0 0),(none, .int .i64 0)] [(0,1),(1,1),(2,1)]),
 (132, .sl 23 1),
 (143, .sl 189 2),
 (157, .sc .nilFunc),
 (189, .st [(some 1, .slice none 0 0),(none, .int .i64 0)] [(0,1),(1,1)]),
 (192, .sl 4 1),
 (195, .sl 5 1),
 (211, .sc .nilFunc),
 (216, .sc .nilFunc),
 (234, .sc (.int .u64 0)),
 (243, .sc .nilFunc)]
theorem tv:True:=trivial
theorem Zlk:TOk Tryz.prog (Zai tab):=ZAJ (by kernel_rfl)
theorem mixed:Tryz.prog.follows .mixedOrders=true:=by kernel_rfl
abbrev nG:Nat:=4
class GOk (gG:Nat->Option Obj):Prop where
 max:∃m:Int,∀w:World,(∀b,b < nG->w.heap[b]? =gG b)->w.cell? ⟨0,0,none⟩=some (.int .i64 m)
 tab:∀w:World,(∀b,b < nG->w.heap[b]? =gG b)->Lib.TabIs Tryz.prog w "internal/strconv.uint64pow10" .u64 Lib.pow10Tab
variable {gG:Nat->Option Obj} [GOk gG]
abbrev Ok (gG:Nat->Option Obj) (f:Nat) (en:Entry):Prop:=VH Tryz.prog nG gG f en
abbrev n0:Nat->Bool:=fun _=>false
abbrev OkU (gG:Nat->Option Obj) (f:Nat) (en:Entry):Prop:=Zhq Tryz.prog nG gG f en
theorem mk {f:Nat} {fn:Func} {en:Entry} (hfn:Tryz.prog.funcs[f]? =some fn) (hname:(fn.name== "runtime.NumGoroutine")=false) (cs us:List ((Nat×Nat)×Entry)) (gs:Nat->Bool) (R:List (Nat×RR)) (h:Hints) (hcs:ZbF Tryz.prog nG gG cs) (hus:Zc1 Tryz.prog nG gG us)
  (hL:∀x,ZeA (Zbw (Zai tab) cs us gs R h fn.ntmps NN) fn en.rs (en.ps.enc x).1 (en.ps.enc x).2=en.S x):Ok gG f en:=ZC2 Zlk mixed hfn hname hcs hus hL
theorem mkA {f:Nat} {fn:Func} {en:Entry} (hfn:Tryz.prog.funcs[f]? =some fn) (cs:List ((Nat×Nat)×Entry)) (R:List (Nat×RR)) (h:Hints) (hcs:ZbF Tryz.prog nG gG cs)
  (hname:(fn.name== "runtime.NumGoroutine")=false:=by kernel_rfl) (hL:∀x,ZeA (Zbw (Zai tab) cs [] n0 R h fn.ntmps NN) fn en.rs (en.ps.enc x).1 (en.ps.enc x).2=en.S x:=by intro x;kernel_rfl):Ok gG f en:=mk hfn hname cs [] n0 R h hcs tv hL
theorem mkU {f:Nat} {fn:Func} {en:Entry} (hfn:Tryz.prog.funcs[f]? =some fn) (hname:(fn.name== "runtime.NumGoroutine")=false) (cs us:List ((Nat×Nat)×Entry)) (gs:Nat->Bool) (R:List (Nat×RR)) (h:Hints) (hcs:ZbF Tryz.prog nG gG cs) (hus:Zc1 Tryz.prog nG gG us)
  (hL:∀x,ZhG (Zbw (Zai tab) cs us gs R h fn.ntmps NN true) fn en.rs (en.ps.enc x).1=en.S x):OkU gG f en:=ZC3 Zlk mixed hfn hname hcs hus hL
noncomputable section
abbrev q1:=rAg (YD .shr .shr .shr .shr .shr .shr .shr)
abbrev q2:=rX .shr 4 Ze
abbrev q3:=rCo rI (Zg rI)
abbrev q4:=rX .shr 1 iR
abbrev q5:=rAg (YD .own .own .own .own .own .own .own)
abbrev q6:=rX .shr 3 (Zb .shr)
abbrev q7:=rAg (XD .shr .shr)
abbrev q8:=rX .own 1 iR
abbrev q9:=Zg rI
abbrev q10:=rX .shr 2 Zc
abbrev q11:=rX .shr 2 (ZI .shr)
abbrev q12:=rX .shr 3 Zl
abbrev q13:=rTu (rCo q5 (Zg rB))
abbrev q14:=Zg q4
abbrev q15:=rAg (XD .own .own)
abbrev q16:=rAg (YD .unq .unq .unq .unq .unq .unq .unq)
abbrev q17:=Zg rB
abbrev q18:=rX .own 2 Zc
abbrev q19:=rCo q2 (rCo q7 (Zg q10))
abbrev q20:=rX .own 3 (Zb .own)
abbrev q21:=rCo rI q3
abbrev q22:=rX .shr 1 q14
abbrev q23:=Zg (rAg V4)
abbrev q24:=Zg (rAg Ze)
abbrev q25:=rX .shr 1 sR
abbrev q26:=rCo q2 q3
abbrev q27:=rCo q2 (Zg q7)
abbrev q28:=Zg q1
abbrev q29:=rCo q2 (rCo q11 q9)
abbrev q30:=Zg q2
abbrev q31:=Zg (rRp iR)
abbrev q32:=Zg rS
abbrev q33:=rCo q4 q9
abbrev q34:=rCo q4 q3
abbrev q35:=rX .own 1 sR
abbrev q36:=rX .own 1 (Zg q8)
abbrev q37:=rCo q8 q9
abbrev q38:=rCo q2 (rCo q7 q9)
def Zwt:Go.Shelf.Ren:=⟨fun | 156=>262 | 165=>314 | 166=>315 | 169=>316 | 240=>345 | 241=>346 | 276=>370 | 277=>371 |n=>n,fun | 31=>53 | 9=>9 | 3=>3 | 4=>4 | 0=>0 | 20=>20 | 72=>247 | 76=>251 | 70=>245 | 37=>195 | 75=>250 | 127=>273 | 164=>294 | 5=>5 | 80=>253 |n=>n,fun n=>n⟩
theorem ZIY:Go.Proofs.Lays.n156 Tryz.prog Zwt where
 mixed:=by kernel_rfl
 f156:=Tryz.func262.trans (UC some (by kernel_rfl))
 f165:=Tryz.func314.trans (UC some (by kernel_rfl))
 f166:=Tryz.func315.trans (UC some (by kernel_rfl))
 f169:=Tryz.func316.trans (UC some (by kernel_rfl))
 f240:=Tryz.func345.trans (UC some (by kernel_rfl))
 f241:=Tryz.func346.trans (UC some (by kernel_rfl))
 f276:=Tryz.func370.trans (UC some (by kernel_rfl))
 f277:=Tryz.func371.trans (UC some (by kernel_rfl))
 t0:=Tryz.underlying0
 a0:=Tryz.isAgg0
 z0:=Tryz.sizeOf0
 v0:=Tryz.zeroValue0
 t3:=Tryz.underlying3
 a3:=Tryz.isAgg3
 z3:=Tryz.sizeOf3
 v3:=Tryz.zeroValue3
 t4:=Tryz.underlying4
 a4:=Tryz.isAgg4
 z4:=Tryz.sizeOf4
 v4:=Tryz.zeroValue4
 t9:=Tryz.underlying9
 a9:=Tryz.isAgg9
 z9:=Tryz.sizeOf9
 v9:=Tryz.zeroValue9
 t20:=Tryz.underlying20
 a20:=Tryz.isAgg20
 z20:=Tryz.sizeOf20
 v20:=Tryz.zeroValue20
 t31:=Tryz.underlying53
 a31:=Tryz.isAgg53
 z31:=Tryz.sizeOf53
 v31:=Tryz.zeroValue53
 t37:=Tryz.underlying195
 a37:=Tryz.isAgg195
 z37:=Tryz.sizeOf195
 v37:=Tryz.zeroValue195
 t70:=Tryz.underlying245
 a70:=Tryz.isAgg245
 z70:=Tryz.sizeOf245
 v70:=Tryz.zeroValue245
 t72:=Tryz.underlying247
 a72:=Tryz.isAgg247
 z72:=Tryz.sizeOf247
 v72:=Tryz.zeroValue247
 t75:=Tryz.underlying250
 a75:=Tryz.isAgg250
 z75:=Tryz.sizeOf250
 v75:=Tryz.zeroValue250
 t76:=Tryz.underlying251
 a76:=Tryz.isAgg251
 z76:=Tryz.sizeOf251
 v76:=Tryz.zeroValue251
 t127:=Tryz.underlying273
 a127:=Tryz.isAgg273
 z127:=Tryz.sizeOf273
 v127:=Tryz.zeroValue273
 t164:=Tryz.underlying294
 a164:=Tryz.isAgg294
 z164:=Tryz.sizeOf294
 v164:=Tryz.zeroValue294
theorem ZIZ:Go.Proofs.Builder.Extra Tryz.prog Zwt where
 sizeBuilder:=by kernel_rfl
 liesBuilder:=by kernel_rfl
 t5:=Tryz.underlying5
 a5:=Tryz.isAgg5
 z5:=Tryz.sizeOf5
 v5:=Tryz.zeroValue5
 infoByte:=by kernel_rfl
 cellsByte:=by kernel_rfl
 sizeByte:=by kernel_rfl
 neB5:=by decide
def ZI0:Go.Shelf.Ren:=⟨fun | 171=>194 | 243=>272 | 246=>321 | 283=>359 | 284=>360 | 285=>361 | 286=>362 | 129=>357 | 317=>377 | 318=>378 | 319=>379 | 320=>380 | 337=>383 | 338=>384 |n=>n,fun | 3=>3 | 9=>9 | 2=>2 | 4=>4 | 171=>285 | 0=>0 | 53=>284 | 37=>195 | 5=>5 | 173=>287 | 212=>304 | 51=>265 | 20=>20 | 213=>305 | 46=>234 | 232=>309 | 233=>310 |n=>n,fun | 17=>3 | 18=>4 | 19=>5 |n=>n⟩
theorem ZI1:Go.Proofs.LaysM.n171 Tryz.prog ZI0 where
 mixed:=by kernel_rfl
 f129:=Tryz.func357.trans (UC some (by kernel_rfl))
 f171:=Tryz.func194.trans (UC some (by kernel_rfl))
 f243:=Tryz.func272.trans (UC some (by kernel_rfl))
 f246:=Tryz.func321.trans (UC some (by kernel_rfl))
 f283:=Tryz.func359.trans (UC some (by kernel_rfl))
 f284:=Tryz.func360.trans (UC some (by kernel_rfl))
 f285:=Tryz.func361.trans (UC some (by kernel_rfl))
 f286:=Tryz.func362.trans (UC some (by kernel_rfl))
 f317:=Tryz.func377.trans (UC some (by kernel_rfl))
 f318:=Tryz.func378.trans (UC some (by kernel_rfl))
 f319:=Tryz.func379.trans (UC some (by kernel_rfl))
 f320:=Tryz.func380.trans (UC some (by kernel_rfl))
 f337:=Tryz.func383.trans (UC some (by kernel_rfl))
 f338:=Tryz.func384.trans (UC some (by kernel_rfl))
 t0:=Tryz.underlying0
 a0:=Tryz.isAgg0
 z0:=Tryz.sizeOf0
 v0:=Tryz.zeroValue0
 t2:=Tryz.underlying2
 a2:=Tryz.isAgg2
 z2:=Tryz.sizeOf2
 v2:=Tryz.zeroValue2
 t3:=Tryz.underlying3
 a3:=Tryz.isAgg3
 z3:=Tryz.sizeOf3
 v3:=Tryz.zeroValue3
 t4:=Tryz.underlying4
 a4:=Tryz.isAgg4
 z4:=Tryz.sizeOf4
 v4:=Tryz.zeroValue4
 t5:=Tryz.underlying5
 a5:=Tryz.isAgg5
 z5:=Tryz.sizeOf5
 v5:=Tryz.zeroValue5
 t9:=Tryz.underlying9
 a9:=Tryz.isAgg9
 z9:=Tryz.sizeOf9
 v9:=Tryz.zeroValue9
 t20:=Tryz.underlying20
 a20:=Tryz.isAgg20
 z20:=Tryz.sizeOf20
 v20:=Tryz.zeroValue20
 t37:=Tryz.underlying195
 a37:=Tryz.isAgg195
 z37:=Tryz.sizeOf195
 v37:=Tryz.zeroValue195
 t46:=Tryz.underlying234
 a46:=Tryz.isAgg234
 z46:=Tryz.sizeOf234
 v46:=Tryz.zeroValue234
 t51:=Tryz.underlying265
 a51:=Tryz.isAgg265
 z51:=Tryz.sizeOf265
 v51:=Tryz.zeroValue265
 t53:=Tryz.underlying284
 a53:=Tryz.isAgg284
 z53:=Tryz.sizeOf284
 v53:=Tryz.zeroValue284
 t171:=Tryz.underlying285
 a171:=Tryz.isAgg285
 z171:=Tryz.sizeOf285
 v171:=Tryz.zeroValue285
 t173:=Tryz.underlying287
 a173:=Tryz.isAgg287
 z173:=Tryz.sizeOf287
 v173:=Tryz.zeroValue287
 t212:=Tryz.underlying304
 a212:=Tryz.isAgg304
 z212:=Tryz.sizeOf304
 v212:=Tryz.zeroValue304
 t213:=Tryz.underlying305
 a213:=Tryz.isAgg305
 z213:=Tryz.sizeOf305
 t232:=Tryz.underlying309
 a232:=Tryz.isAgg309
 z232:=Tryz.sizeOf309
 v232:=Tryz.zeroValue309
 t233:=Tryz.underlying310
 a233:=Tryz.isAgg310
 z233:=Tryz.sizeOf310
 v233:=Tryz.zeroValue310
 g17:=by kernel_rfl
 g18:=by kernel_rfl
 g19:=by kernel_rfl
 i0:=by kernel_rfl
 i2:=by kernel_rfl
 i3:=by kernel_rfl
 i4:=by kernel_rfl
 i5:=by kernel_rfl
 i9:=by kernel_rfl
 i20:=by kernel_rfl
 i37:=by kernel_rfl
 i46:=by kernel_rfl
 i51:=by kernel_rfl
 i53:=by kernel_rfl
 i171:=by kernel_rfl
 i173:=by kernel_rfl
 i212:=by kernel_rfl
 i232:=by kernel_rfl
 i233:=by kernel_rfl
 m17:=by kernel_rfl
 m18:=by kernel_rfl
 m19:=by kernel_rfl
def ZI2:Go.Shelf.Ren:=⟨fun | 137=>161 | 217=>243 | 266=>298 |n=>n,fun | 9=>9 | 5=>5 | 3=>3 |n=>n,fun n=>n⟩
theorem ZI3:Go.Proofs.Lays.n137 Tryz.prog ZI2 where
 mixed:=by kernel_rfl
 f137:=Tryz.func161.trans (UC some (by kernel_rfl))
 f217:=Tryz.func243.trans (UC some (by kernel_rfl))
 f266:=Tryz.func298.trans (UC some (by kernel_rfl))
 t3:=Tryz.underlying3
 a3:=Tryz.isAgg3
 z3:=Tryz.sizeOf3
 v3:=Tryz.zeroValue3
 t5:=Tryz.underlying5
 a5:=Tryz.isAgg5
 z5:=Tryz.sizeOf5
 v5:=Tryz.zeroValue5
 t9:=Tryz.underlying9
 a9:=Tryz.isAgg9
 z9:=Tryz.sizeOf9
 v9:=Tryz.zeroValue9
def ZI4:Go.Shelf.Ren:=⟨fun | 146=>30 | 221=>79 | 268=>157 | 138=>158 | 143=>159 | 195=>239 | 197=>240 | 218=>241 | 219=>242 | 260=>294 | 217=>243 | 225=>295 | 224=>296 | 267=>297 | 266=>298 | 314=>333 |n=>n,fun | 9=>9 | 31=>53 | 3=>3 | 4=>4 | 0=>0 | 105=>208 | 21=>21 | 5=>5 | 46=>234 | 119=>261 | 139=>264 | 138=>263 | 146=>266 | 51=>265 |n=>n,fun | 1=>0 | 3=>1 | 4=>2 |n=>n⟩
theorem ZI5:Go.Proofs.Lays.n146 Tryz.prog ZI4 where
 mixed:=by kernel_rfl
 f138:=Tryz.func158.trans (UC some (by kernel_rfl))
 f143:=Tryz.func159.trans (UC some (by kernel_rfl))
 f146:=Tryz.func30.trans (UC some (by kernel_rfl))
 f195:=Tryz.func239.trans (UC some (by kernel_rfl))
 f197:=Tryz.func240.trans (UC some (by kernel_rfl))
 f217:=Tryz.func243.trans (UC some (by kernel_rfl))
 f218:=Tryz.func241.trans (UC some (by kernel_rfl))
 f219:=Tryz.func242.trans (UC some (by kernel_rfl))
 f221:=Tryz.func79.trans (UC some (by kernel_rfl))
 f224:=Tryz.func296.trans (UC some (by kernel_rfl))
 f225:=Tryz.func295.trans (UC some (by kernel_rfl))
 f260:=Tryz.func294.trans (UC some (by kernel_rfl))
 f266:=Tryz.func298.trans (UC some (by kernel_rfl))
 f267:=Tryz.func297.trans (UC some (by kernel_rfl))
 f268:=Tryz.func157.trans (UC some (by kernel_rfl))
 f314:=Tryz.func333.trans (UC some (by kernel_rfl))
 t0:=Tryz.underlying0
 a0:=Tryz.isAgg0
 z0:=Tryz.sizeOf0
 v0:=Tryz.zeroValue0
 t3:=Tryz.underlying3
 a3:=Tryz.isAgg3
 z3:=Tryz.sizeOf3
 v3:=Tryz.zeroValue3
 t4:=Tryz.underlying4
 a4:=Tryz.isAgg4
 z4:=Tryz.sizeOf4
 v4:=Tryz.zeroValue4
 t5:=Tryz.underlying5
 a5:=Tryz.isAgg5
 z5:=Tryz.sizeOf5
 v5:=Tryz.zeroValue5
 t9:=Tryz.underlying9
 a9:=Tryz.isAgg9
 z9:=Tryz.sizeOf9
 v9:=Tryz.zeroValue9
 t21:=Tryz.underlying21
 a21:=Tryz.isAgg21
 z21:=Tryz.sizeOf21
 v21:=Tryz.zeroValue21
 t31:=Tryz.underlying53
 a31:=Tryz.isAgg53
 z31:=Tryz.sizeOf53
 v31:=Tryz.zeroValue53
 t46:=Tryz.underlying234
 a46:=Tryz.isAgg234
 z46:=Tryz.sizeOf234
 v46:=Tryz.zeroValue234
 t51:=Tryz.underlying265
 a51:=Tryz.isAgg265
 z51:=Tryz.sizeOf265
 v51:=Tryz.zeroValue265
 t105:=Tryz.underlying208
 a105:=Tryz.isAgg208
 z105:=Tryz.sizeOf208
 v105:=Tryz.zeroValue208
 t119:=Tryz.underlying261
 a119:=Tryz.isAgg261
 z119:=Tryz.sizeOf261
 t138:=Tryz.underlying263
 a138:=Tryz.isAgg263
 z138:=Tryz.sizeOf263
 v138:=Tryz.zeroValue263
 t139:=Tryz.underlying264
 a139:=Tryz.isAgg264
 z139:=Tryz.sizeOf264
 v139:=Tryz.zeroValue264
 t146:=Tryz.underlying266
 a146:=Tryz.isAgg266
 z146:=Tryz.sizeOf266
 v146:=Tryz.zeroValue266
 g1:=by kernel_rfl
 g3:=by kernel_rfl
 g4:=by kernel_rfl
def Zwu:Entry:=⟨aV (rCo (rX .unq 1 (Zg q8)) (Zg (rFn 266 Zep))),qV (rSo (rX .unq 1 (Zg q8))),fun (x:((List (List Int))×Unit))=>ZnB x.1⟩
theorem ZI6:OkU gG 265 Zwu:=fun x r hS _ _=>by
 obtain ⟨h1,rfl⟩:=ZIW hS;exact ZIX x.1 h1
def Zwv:Entry:=⟨aV (rCo rS q32),qV q25,fun (x:ByteArray×ByteArray)=>ZbS x.1 x.2⟩
theorem ZI7:Ok gG 30 Zwv:=ZDV ZI5 (by kernel_rfl) rfl Tryz.func30 (by kernel_rfl) (by kernel_rfl) GOk.max
def Zww:Entry:=⟨aV (rCo rS (Zg rY)),qV rI,fun (x:ByteArray×Int)=>ZeT x.1 x.2⟩
theorem ZI8:Ok gG 161 Zww:=ZDM ZI3 rfl Tryz.func161 (by kernel_rfl) (by kernel_rfl)
def Zwx:Entry:=⟨aV q9,qV rS,fun (x:Int)=>Zc9 x⟩
theorem ZI9:Ok gG 194 Zwx:=ZDL ZI1 rfl Tryz.func194 (by kernel_rfl) (by kernel_rfl) GOk.tab
def Zwy:Entry:=⟨aV (rCo (rX .unq 1 iR) (rCo rI (Zg q8))),qV q8,fun (x:(List Int)×Int×(List Int))=>ZnA x.1 x.2.1 x.2.2⟩
theorem ZJa:Ok gG 301 Zwy:=Ztx (R:=iR) Zlk (t:=23) (e:=3) (k:=1) rfl rfl ZIJ (fun x a ha=>by simp [iR,RT.map,rCo,Zg,rI,rB] at ha;first |exact ⟨_,ha⟩ | (rcases ha with rfl |rfl <;> exact ⟨_,rfl⟩) | (rcases ha with rfl |rfl |rfl <;> exact ⟨_,rfl⟩)) Tryz.func301 (by kernel_rfl) (by kernel_rfl)
def Zwz:Entry:=⟨aV (rCo (rX .unq 2 Zc) (rCo rI (Zg q18))),qV q18,fun (x:(List Want)×Int×(List Want))=>ZeU x.1 x.2.1 x.2.2⟩
theorem ZJb:Ok gG 256 Zwz:=Ztx (R:=Zc) Zlk (t:=36) (e:=119) (k:=2) rfl rfl ZIN (fun x a ha=>by simp [Zc,RT.map,rCo,Zg,rI,rB] at ha;first |exact ⟨_,ha⟩ | (rcases ha with rfl |rfl <;> exact ⟨_,rfl⟩) | (rcases ha with rfl |rfl |rfl <;> exact ⟨_,rfl⟩)) Tryz.func256 (by kernel_rfl) (by kernel_rfl)
def ZwA:Entry:=⟨aV (rCo q25 q32),qV rS,fun (x:(List ByteArray)×ByteArray)=>ZbR x.1 x.2⟩
theorem ZJc:Ok gG 262 ZwA:=ZDH ZIY ZIZ rfl Tryz.func262 (by kernel_rfl) (by kernel_rfl)
def ZwB:Entry:=⟨aV (rCo q2 q9),qV rI,fun (x:(List Path)×Int)=>ZhT x.1 x.2⟩
theorem ZJd:Ok gG 11 ZwB:=mkA Tryz.func11 [] [] {} tv
def Zqa:Entry:=⟨aV q33,qV rI,fun (x:(List Int)×Int)=>Zda x.1 x.2⟩
theorem ZwC:Ok gG 55 Zqa:=mkA Tryz.func55 [] [] {} tv
def ZwD:Entry:=⟨aV (rCo q7 q9),qV rI,fun (x:Control×Int)=>ZhU x.1 x.2⟩
theorem ZJe:Ok gG 12 ZwD:=mkA Tryz.func12 [((55,0),Zqa)] [] {} ⟨ZwC,tv⟩
def ZwE:Entry:=⟨aV (rCo q10 q9),qV rI,fun (x:(List Want)×Int)=>ZhV x.1 x.2⟩
theorem ZJf:Ok gG 13 ZwE:=mkA Tryz.func13 [] [] {} tv
def ZwF:Entry:=⟨aV (rCo q12 q9),qV rI,fun (x:(List Lamp)×Int)=>ZhW x.1 x.2⟩
theorem ZJg:Ok gG 14 ZwF:=mkA Tryz.func14 [] [] {} tv
def ZwG:Entry:=⟨aV (rCo (rAg (Zb .shr)) q9),qV rI,fun (x:Note×Int)=>ZeV x.1 x.2⟩
theorem ZJh:Ok gG 56 ZwG:=mkA Tryz.func56 [((55,0),Zqa)] [] {} ⟨ZwC,tv⟩
def ZwH:Entry:=⟨aV (rCo q6 q9),qV rI,fun (x:(List Note)×Int)=>ZhX x.1 x.2⟩
theorem ZJi:Ok gG 15 ZwH:=mkA Tryz.func15 [((56,0),ZwG)] [(94,(Zb .shr))] {lv:= [(5,⟨[0,1,5],[],[],pV (rCo q6 q3),[]⟩)]} ⟨ZJh,tv⟩
def ZwI:Entry:=⟨aV (rCo q1 q9),qV rI,fun (x:Town×Int)=>ZhY x.1 x.2⟩
theorem ZJj:Ok gG 4 ZwI:=mkA Tryz.func4 [((11,0),ZwB),((12,0),ZwD),((13,0),ZwE),((14,0),ZwF),((15,0),ZwH)] [] {} ⟨ZJd,ZJe,ZJf,ZJg,ZJi,tv⟩
def ZwJ:Entry:=⟨aV q24,qV (rAg Ze),fun (x:Path)=>ZnC x⟩
theorem ZJk:Ok gG 74 ZwJ:=mkA Tryz.func74 [] [] {} tv
def ZwK:Entry:=⟨aV q30,qV (rX .own 4 Ze),fun (x:List Path)=>ZhZ x⟩
theorem ZJl:Ok gG 24 ZwK:=mkA Tryz.func24 [((74,0),ZwJ)] [(116,Ze)] {ro:= [(7,Ze)],lv:= [(3,⟨[0,4],[(3,7,true)],[(7,4,true,false)],pVO (rCo q2 q9) (Qm Ze),[]⟩)]} ⟨ZJk,tv⟩
def Zqb:Entry:=⟨aV q14,qV q8,fun (x:List Int)=>Zdb x⟩
theorem ZwL:Ok gG 75 Zqb:=mkA Tryz.func75 [] [(3,iR)] {ro:= [(7,iR)],lv:= [(3,⟨[0,4],[(3,7,true)],[(7,1,true,false)],pVO q33 (Qm iR),[]⟩)]} tv
def ZwM:Entry:=⟨aV (Zg q7),qV q15,fun (x:Control)=>Zh0 x⟩
theorem ZJm:Ok gG 25 ZwM:=mkA Tryz.func25 [((75,0),Zqb)] [] {tk:= [(2,4),(4,4),(6,1)],mo:= [(6,0)]} ⟨ZwL,tv⟩
def ZwN:Entry:=⟨aV (Zg (rAg Zc)),qV (rAg Zc),fun (x:Want)=>ZnD x⟩
theorem ZJn:Ok gG 76 ZwN:=mkA Tryz.func76 [] [] {} tv
def ZwO:Entry:=⟨aV (Zg q10),qV q18,fun (x:List Want)=>Zh1 x⟩
theorem ZJo:Ok gG 26 ZwO:=mkA Tryz.func26 [((76,0),ZwN)] [(121,Zc)] {ro:= [(7,Zc)],lv:= [(3,⟨[0,4],[(3,7,true)],[(7,2,true,false)],pVO (rCo q10 q9) (Qm Zc),[]⟩)]} ⟨ZJn,tv⟩
def ZwP:Entry:=⟨aV q23,qV (rAg V4),fun (x:Prio)=>ZnE x⟩
theorem ZJp:Ok gG 27 ZwP:=mkA Tryz.func27 [] [] {} tv
def ZwQ:Entry:=⟨aV (Zg (rAg Zl)),qV (rAg Zl),fun (x:Lamp)=>ZnF x⟩
theorem ZJq:Ok gG 77 ZwQ:=mkA Tryz.func77 [] [] {} tv
def ZwR:Entry:=⟨aV (Zg q12),qV (rX .own 3 Zl),fun (x:List Lamp)=>Zh2 x⟩
theorem ZJr:Ok gG 28 ZwR:=mkA Tryz.func28 [((77,0),ZwQ)] [(125,Zl)] {ro:= [(7,Zl)],lv:= [(3,⟨[0,4],[(3,7,true)],[(7,3,true,false)],pVO (rCo q12 q9) (Qm Zl),[]⟩)]} ⟨ZJq,tv⟩
def ZwS:Entry:=⟨aV (Zg (rAg (Zb .shr))),qV (rAg (Zb .own)),fun (x:Note)=>Zh3 x⟩
theorem ZJs:Ok gG 78 ZwS:=mkA Tryz.func78 [((75,0),Zqb)] [] {tk:= [(3,4),(5,1)],mo:= [(5,0)]} ⟨ZwL,tv⟩
def ZwT:Entry:=⟨aV (Zg q6),qV q20,fun (x:List Note)=>Zh4 x⟩
theorem ZJt:Ok gG 29 ZwT:=mkA Tryz.func29 [((78,0),ZwS)] [(94,(Zb .shr))] {tk:= [(5,8)],ro:= [(7,(Zb .own))],lv:= [(3,⟨[0,4],[(3,7,true)],[(7,3,true,false)],pVO (rCo q6 q9) (Qm (Zb .own)),[]⟩)]} ⟨ZJs,tv⟩
def ZwU:Entry:=⟨aV q28,qV q5,fun (x:Town)=>ZbT x⟩
theorem ZJu:Ok gG 6 ZwU:=mkA Tryz.func6 [((24,0),ZwK),((25,0),ZwM),((26,0),ZwO),((27,0),ZwP),((28,0),ZwR),((29,0),ZwT)] [] {tk:= [(2,4),(3,4),(4,4),(6,4),(8,4),(11,1)],mo:= [(11,0)]} ⟨ZJl,ZJm,ZJo,ZJp,ZJr,ZJt,tv⟩
def ZwV:Entry:=⟨aV q32,qV q35,fun (x:ByteArray)=>Zh5 x⟩
theorem ZJv:Ok gG 16 ZwV:=mkA Tryz.func16 [] [] {tk:= [(1,1),(9,0),(9,3),(9,4),(11,0),(11,1)],lv:= [(4,⟨[0,3,4,5],[],[],pV (rCo rS (rCo q35 (rCo rS q9))),[]⟩)]} tv
def ZcF:Entry:=⟨aV (Zg q7),qV q15,fun (x:Control)=>VK x⟩
theorem Zd6:Ok gG 57 ZcF:=mkA Tryz.func57 [] [] {tk:= [(1,12),(1,13)]} tv
def Zgr:Entry:=⟨aV (Zg q6),qV q20,fun (x:List Note)=>Zay x⟩
theorem Zll:Ok gG 58 Zgr:=mkA Tryz.func58 [] [(126,(Zb .shr))] {tk:= [(1,1),(5,0),(5,18),(5,19),(5,20),(5,21),(6,0),(6,1)],lv:= [(3,⟨[0,3,4],[],[],pV (rCo q6 (rCo q20 q9)),[]⟩)]} tv
def Q2:Entry:=⟨aV q28,qV q5,fun (x:Town)=>Yv x⟩
theorem Vx:Ok gG 17 Q2:=mkA Tryz.func17 [((57,0),ZcF),((58,0),Zgr)] [] {tk:= [(1,26),(1,27)]} ⟨Zd6,Zll,tv⟩
def Y6:Entry:=⟨aV q21,qV rB,fun (x:Int×Int×Int)=>Yg x.1 x.2.1 x.2.2⟩
theorem Xg:Ok gG 62 Y6:=mkA Tryz.func62 [] [] {} tv
def Zd7:Entry:=⟨aV q24,qV rB,fun (x:Path)=>KB x⟩
theorem Zgs:Ok gG 123 Zd7:=mkA Tryz.func123 [((62,0),Y6)] [] {} ⟨Xg,tv⟩
def KX:Entry:=⟨aV q9,qV rS,fun (x:Int)=>XF x⟩
theorem Zbg:Ok gG 129 KX:=mkA Tryz.func129 [] [] {lv:= [(5,⟨[0,3,4],[],[],pV (rCo rI (rCo rS q9)),[]⟩)]} tv
def Zqc:Entry:=⟨aV q24,qV rS,fun (x:Path)=>ZeW x⟩
theorem ZwW:Ok gG 124 Zqc:=mkA Tryz.func124 [((123,0),Zd7),((129,0),KX)] [(9,sR)] {} ⟨Zgs,Zbg,tv⟩
def ZwX:Entry:=⟨aV q32,qV (rTu (rCo (rAg Ze) q17)),fun (x:ByteArray)=>Zh6 x⟩
theorem ZJw:Ok gG 59 ZwX:=mkA Tryz.func59 [((123,0),Zd7),((124,0),Zqc)] [] {lv:= [(2,⟨[0,4],[(2,2,false)],[(2,4,false,false)],pVO (rCo rS q9) (YC Ze),[]⟩),(5,⟨[0,4,5],[(2,2,false)],[(2,4,false,false)],pVO (rCo rS q3) (YC Ze),[]⟩),(8,⟨[0,4,5,6],[(2,2,false)],[(2,4,false,false)],pVO (rCo rS q21) (YC Ze),[]⟩)]} ⟨Zgs,ZwW,tv⟩
def Jo:Entry:=⟨aV q30,qV rB,fun (x:List Path)=>QN x⟩
theorem Ki:Ok gG 203 Jo:=mkA Tryz.func203 [((123,0),Zd7)] [(98,Ze)] {lv:= [(2,⟨[0,3],[],[],pV (rCo q2 q9),[]⟩)]} ⟨Zgs,tv⟩
def VZ:Entry:=⟨aV q33,qV rB,fun (x:(List Int)×Int)=>Xt x.1 x.2⟩
theorem Jp:Ok gG 204 VZ:=mkA Tryz.func204 [] [(3,iR)] {lv:= [(2,⟨[0,1,5],[],[],pV q34,[]⟩)]} tv
def Qj:Entry:=⟨aV (rCo q2 q9),qV rI,fun (x:(List Path)×Int)=>YR x.1 x.2⟩
theorem QK:Ok gG 135 Qj:=mkA Tryz.func135 [] [(98,Ze)] {lv:= [(2,⟨[0,1,5],[],[],pV q26,[]⟩)]} tv
def ZwY:Entry:=⟨aV q9,qV rI,fun (x:Int)=>Zdc x⟩
theorem ZJx:Ok gG 237 ZwY:=mkA Tryz.func237 [((62,0),Y6)] [] {} ⟨Xg,tv⟩
def ZwZ:Entry:=⟨aV q9,qV rI,fun (x:Int)=>Zdd x⟩
theorem ZJy:Ok gG 238 ZwZ:=mkA Tryz.func238 [((62,0),Y6)] [] {} ⟨Xg,tv⟩
def Zw0:Entry:=⟨aV (rCo rI q21),qV rB,fun (x:Int×Int×Int×Int)=>ZeX x.1 x.2.1 x.2.2.1 x.2.2.2⟩
theorem ZJz:Ok gG 236 Zw0:=mkA Tryz.func236 [((62,0),Y6)] [(3,iR)] {tk:= [(1,5)],lv:= [(3,⟨[0,1,2,3,9,10],[],[],pV (rCo rI (rCo rI (rCo rI (rCo rI q37)))),[]⟩),(6,⟨[0,1,2,3,9,10,11],[],[],pV (rCo rI (rCo rI (rCo rI (rCo rI (rCo q8 q3))))),[]⟩),(14,⟨[1,2,3,12,13],[],[],pV (rCo rI (rCo rI q21)),[]⟩)]} ⟨Xg,tv⟩
def Zd8:Entry:=⟨aV (rCo (rAg Ze) q24),qV rB,fun (x:Path×Path)=>KC x.1 x.2⟩
theorem Zgt:Ok gG 156 Zd8:=mkA Tryz.func156 [((123,0),Zd7),((237,0),ZwY),((238,0),ZwZ),((236,0),Zw0)] [] {} ⟨Zgs,ZJx,ZJy,ZJz,tv⟩
def KY:Entry:=⟨aV (rCo q2 q14),qV rB,fun (x:(List Path)×(List Int))=>Qy x.1 x.2⟩
theorem Zbh:Ok gG 278 KY:=mkA Tryz.func278 [((135,0),Qj),((156,0),Zd8),((203,0),Jo)] [(3,iR),(98,Ze)] {lv:= [(2,⟨[0,1,5],[],[],pV (rCo q2 q33),[]⟩),(8,⟨[0,1,5,6,7],[],[],pV (rCo q2 (rCo q4 q21)),[]⟩)]} ⟨QK,Zgt,Ki,tv⟩
def Zlm:Entry:=⟨aV q33,qV q8,fun (x:(List Int)×Int)=>Zde x.1 x.2⟩
theorem Zqd:Ok gG 206 Zlm:=mkA Tryz.func206 [] [(3,iR)] {tk:= [(5,3),(6,7),(6,12)],lv:= [(2,⟨[0,1,5],[],[],pV q34,[]⟩)]} tv
def Zln:Entry:=⟨aV (rCo q2 q14),qV q8,fun (x:(List Path)×(List Int))=>Zdf x.1 x.2⟩
theorem Zqe:Ok gG 205 Zln:=mkA Tryz.func205 [((278,0),KY),((206,0),Zlm)] [(98,Ze)] {tk:= [(1,3),(5,7),(7,0),(7,1),(8,0),(8,1)],lv:= [(3,⟨[0,1,5,6],[],[],pV (rCo q2 (rCo q4 q37)),[]⟩)]} ⟨Zbh,Zqd,tv⟩
def Zqf:Entry:=⟨aV q30,qV (rX .own 1 q14),fun (x:List Path)=>ZeY x⟩
theorem Zw1:Ok gG 125 Zqf:=mkA Tryz.func125 [((203,0),Jo),((204,0),VZ),((205,0),Zln),((206,0),Zlm)] [(3,iR),(98,Ze)] {tk:= [(1,1),(2,1),(7,8),(8,0),(8,3),(8,4),(12,0),(12,6),(13,0),(13,1)],lv:= [(4,⟨[0,3,4,5],[],[],pV (rCo q2 (rCo (rX .own 1 q14) q37)),[]⟩),(10,⟨[0,3,4,5,6,7],[],[],pV (rCo q2 (rCo (rX .own 1 q14) (rCo q8 (rCo rI q37)))),[]⟩)]} ⟨Ki,Jp,Zqe,Zqd,tv⟩
def Zw2:Entry:=⟨aV (rCo q4 q14),qV q8,fun (x:(List Int)×(List Int))=>ZeZ x.1 x.2⟩
theorem ZJA:Ok gG 326 Zw2:=mkA Tryz.func326 [((204,0),VZ)] [(3,iR)] {tk:= [(1,1),(6,0),(6,6),(6,7),(7,0),(7,1)],lv:= [(3,⟨[0,1,5,6],[],[],pV (rCo q4 (rCo q4 q37)),[]⟩)]} ⟨Jp,tv⟩
def Zlo:Entry:=⟨aV q24,qV rI,fun (x:Path)=>ZbU x⟩
theorem Zqg:Ok gG 327 Zlo:=mkA Tryz.func327 [((123,0),Zd7)] [(3,iR)] {} ⟨Zgs,tv⟩
def Zlp:Entry:=⟨aV q3,qV rI,fun (x:Int×Int)=>ZbV x.1 x.2⟩
theorem Zqh:Ok gG 232 Zlp:=mkA Tryz.func232 [] [] {} tv
def Zgu:Entry:=⟨aV (rCo q2 (rCo q4 q14)),qV rI,fun (x:(List Path)×(List Int)×(List Int))=>ZbW x.1 x.2.1 x.2.2⟩
theorem Zlq:Ok gG 280 Zgu:=mkA Tryz.func280 [((326,0),Zw2),((278,0),KY),((135,0),Qj),((156,0),Zd8),((327,0),Zlo),((232,0),Zlp)] [(3,iR),(98,Ze)] {tk:= [(2,3),(3,3)],lv:= [(5,⟨[0,1,2,7,8,9,10],[],[],pV (rCo q2 (rCo q4 (rCo q4 (rCo rI (rCo q8 q37))))),[]⟩),(8,⟨[0,1,2,7,8,9,10,11],[],[],pV (rCo q2 (rCo q4 (rCo q4 (rCo rI (rCo q8 (rCo q8 q3)))))),[]⟩)]} ⟨ZJA,Zbh,QK,Zgt,Zqg,Zqh,tv⟩
def Jq:Entry:=⟨aV q27,qV rB,fun (x:(List Path)×Control)=>QO x.1 x.2⟩
theorem Kj:Ok gG 210 Jq:=mkA Tryz.func210 [((278,0),KY),((62,0),Y6),((280,0),Zgu)] [] {} ⟨Zbh,Xg,Zlq,tv⟩
def Zgv:Entry:=⟨aV q27,qV q8,fun (x:(List Path)×Control)=>Zaz x.1 x.2⟩
theorem Zlr:Ok gG 127 Zgv:=mkA Tryz.func127 [((210,0),Jq),((204,0),VZ)] [(98,Ze)] {tk:= [(1,1),(10,0),(10,3),(10,4),(11,0),(11,1)],lv:= [(3,⟨[0,5,6],[(3,3,false)],[(3,4,false,false)],pVO (rCo q2 q37) (YC (XD .shr .shr)),[]⟩)]} ⟨Kj,Jp,tv⟩
def Zw3:Entry:=⟨aV (Zg q6),qV rI,fun (x:List Note)=>Zh7 x⟩
theorem ZJB:Ok gG 208 Zw3:=mkA Tryz.func208 [] [(126,(Zb .shr))] {} tv
def Zw4:Entry:=⟨aV q3,qV rI,fun (x:Int×Int)=>Zh8 x.1 x.2⟩
theorem ZJC:Ok gG 325 Zw4:=mkA Tryz.func325 [((62,0),Y6)] [] {} ⟨Xg,tv⟩
def Zw5:Entry:=⟨aV q14,qV rI,fun (x:List Int)=>Zh9 x⟩
theorem ZJD:Ok gG 279 Zw5:=mkA Tryz.func279 [((325,0),Zw4)] [(3,iR)] {lv:= [(3,⟨[0,3,4],[],[],pV q34,[]⟩)]} ⟨ZJC,tv⟩
def Zqi:Entry:=⟨aV (rCo rI (rCo rI q14)),qV rI,fun (x:Int×Int×(List Int))=>Ze0 x.1 x.2.1 x.2.2⟩
theorem Zw6:Ok gG 207 Zqi:=mkA Tryz.func207 [((279,0),Zw5)] [] {} ⟨ZJD,tv⟩
def Zd9:Entry:=⟨aV (Zg q6),qV rB,fun (x:List Note)=>ZaA x⟩
theorem Zgw:Ok gG 209 Zd9:=mkA Tryz.func209 [((207,0),Zqi),((62,0),Y6)] [(3,iR),(126,(Zb .shr))] {lv:= [(3,⟨[0,3,4],[],[],pV (rCo q6 q3),[]⟩),(9,⟨[0,3,4,5],[],[],pV (rCo q6 q21),[]⟩)]} ⟨Zw6,Xg,tv⟩
def Zls:Entry:=⟨aV (rCo q6 (rCo rI q14)),qV (rTu (rCo q20 q17)),fun (x:(List Note)×Int×(List Int))=>JM x.1 x.2.1 x.2.2⟩
theorem Zqj:Ok gG 126 Zls:=mkA Tryz.func126 [((58,0),Zgr),((208,0),Zw3),((207,0),Zqi),((209,0),Zd9)] [] {tk:= [(1,11),(1,12),(1,13),(1,14),(3,2),(4,0),(4,1)]} ⟨Zll,ZJB,Zw6,Zgw,tv⟩
def Zea:Entry:=⟨aV (rCo q2 (Zg q10)),qV rB,fun (x:(List Path)×(List Want))=>JN x.1 x.2⟩
theorem Zgx:Ok gG 211 Zea:=mkA Tryz.func211 [((135,0),Qj),((62,0),Y6),((203,0),Jo)] [(119,Zc)] {lv:= [(2,⟨[0,1,5],[],[],pV (rCo q2 (rCo q10 q9)),[]⟩)]} ⟨QK,Xg,Ki,tv⟩
def Zgy:Entry:=⟨aV (rCo q2 q23),qV rB,fun (x:(List Path)×Prio)=>ZaB x.1 x.2⟩
theorem Zlt:Ok gG 212 Zgy:=mkA Tryz.func212 [((203,0),Jo),((135,0),Qj),((62,0),Y6)] [(98,Ze)] {} ⟨Ki,QK,Xg,tv⟩
def Zqk:Entry:=⟨aV (rCo q2 (Zg q12)),qV rB,fun (x:(List Path)×(List Lamp))=>Ze1 x.1 x.2⟩
theorem Zw7:Ok gG 213 Zqk:=mkA Tryz.func213 [((135,0),Qj),((62,0),Y6),((203,0),Jo)] [(123,Zl)] {lv:= [(2,⟨[0,1,5],[],[],pV (rCo q2 (rCo q12 q9)),[]⟩),(7,⟨[0,1,5,6],[],[],pV (rCo q2 (rCo q12 q3)),[]⟩)]} ⟨QK,Xg,Ki,tv⟩
def Zql:Entry:=⟨aV (rCo q2 q14),qV rB,fun (x:(List Path)×(List Int))=>Ze2 x.1 x.2⟩
theorem Zw8:Ok gG 281 Zql:=mkA Tryz.func281 [((203,0),Jo),((62,0),Y6),((156,0),Zd8)] [(3,iR),(98,Ze)] {lv:= [(4,⟨[0,1,5],[],[],pV (rCo q2 q33),[]⟩),(9,⟨[0,1,5,6],[],[],pV (rCo q2 q34),[]⟩)]} ⟨Ki,Xg,Zgt,tv⟩
def Zw9:Entry:=⟨aV (rCo q2 (Zg q6)),qV rI,fun (x:(List Path)×(List Note))=>Zia x.1 x.2⟩
theorem ZJE:Ok gG 214 Zw9:=mkA Tryz.func214 [((209,0),Zd9),((281,0),Zql)] [(126,(Zb .shr))] {lv:= [(2,⟨[0,1,5],[],[],pV (rCo q2 (rCo q6 q9)),[]⟩)]} ⟨Zgw,Zw8,tv⟩
def KZ:Entry:=⟨aV q28,qV rB,fun (x:Town)=>VL x⟩
theorem Zbi:Ok gG 128 KZ:=mkA Tryz.func128 [((210,0),Jq),((211,0),Zea),((212,0),Zgy),((213,0),Zqk),((209,0),Zd9),((214,0),Zw9),((62,0),Y6)] [(126,(Zb .shr))] {} ⟨Kj,Zgx,Zlt,Zw7,Zgw,ZJE,Xg,tv⟩
def Zxa:Entry:=⟨aV q30,qV q13,fun (x:List Path)=>Zib x⟩
theorem ZJF:Ok gG 60 Zxa:=mkA Tryz.func60 [((125,0),Zqf),((17,0),Q2),((127,0),Zgv),((126,0),Zls),((128,0),KZ)] [(23,q14)] {tk:= [(1,2),(3,1),(4,1),(4,5),(4,8),(5,5),(5,6),(5,9),(7,1),(8,1)],mo:= [(8,0)]} ⟨Zw1,Vx,Zlr,Zqj,Zbi,tv⟩
def Zqm:Entry:=⟨aV (rCo q1 (rCo q1 q17)),qV (rTu (rCo q1 q32)),fun (x:Town×Town×Bool)=>Zdg x.1 x.2.1 x.2.2⟩
theorem Zxb:Ok gG 22 Zqm:=mkA Tryz.func22 [((17,0),Q2)] [] {tk:= [(2,2)]} ⟨Vx,tv⟩
def Zxc:Entry:=⟨aV (rCo q1 (Zg q25)),qV (rTu (rCo q1 q32)),fun (x:Town×(List ByteArray))=>Zic x.1 x.2⟩
theorem ZJG:Ok gG 18 Zxc:=mkA Tryz.func18 [((59,0),ZwX),((17,0),Q2),((60,0),Zxa),((22,0),Zqm)] [(9,sR)] {tk:= [(1,1),(7,2),(8,0),(8,3),(8,4),(10,2),(11,0),(11,2),(11,3),(11,6)],mo:= [(12,1)],lv:= [(3,⟨[1,6,7],[(2,2,false),(4,4,false)],[(2,13,false,false),(4,13,false,false)],pVO (rCo q25 (rCo (rX .own 4 Ze) q9)) (XR (YD .shr .shr .shr .shr .shr .shr .shr) (YC (YD .own .own .own .own .own .own .own))),[]⟩)]} ⟨ZJw,Vx,ZJF,Zxb,tv⟩
def Zxd:Entry:=⟨aV q32,qV (rTu (rCo rI q17)),fun (x:ByteArray)=>Zid x⟩
theorem ZJH:Ok gG 61 Zxd:=mkA Tryz.func61 [((62,0),Y6),((129,0),KX)] [] {lv:= [(5,⟨[0,4,5],[],[],pV (rCo rS q3),[]⟩)]} ⟨Xg,Zbg,tv⟩
def Zxe:Entry:=⟨aV (Zg q25),qV (rTu (rCo q8 q17)),fun (x:List ByteArray)=>Zie x⟩
theorem ZJI:Ok gG 19 Zxe:=mkA Tryz.func19 [((61,0),Zxd)] [(9,sR)] {tk:= [(1,1),(7,0),(7,1),(8,0),(8,3),(8,4),(9,0),(9,1)],lv:= [(3,⟨[0,4,5],[],[],pV (rCo q25 q37),[]⟩)]} ⟨ZJH,tv⟩
def Zxf:Entry:=⟨aV (rCo rS q14),qV (rAg Znp),fun (x:ByteArray×(List Int))=>Ze4 x.1 x.2⟩
theorem ZJJ:Ok gG 20 Zxf:=mkA Tryz.func20 [((62,0),Y6)] [(3,iR)] {} ⟨Xg,tv⟩
def Zxg:Entry:=⟨aV (rCo q2 (rCo q10 q9)),qV (rTu (rCo q18 q17)),fun (x:(List Path)×(List Want)×Int)=>Zif x.1 x.2.1 x.2.2⟩
theorem ZJK:Ok gG 130 Zxg:=mkA Tryz.func130 [((211,0),Zea)] [(119,Zc)] {tk:= [(4,8),(4,13),(6,3),(7,0),(7,1)],lv:= [(2,⟨[0,1,2,8],[],[],pV (rCo q2 (rCo q10 q3)),[]⟩)]} ⟨Zgx,tv⟩
def ZcG:Entry:=⟨aV (rCo q1 (rCo q5 q17)),qV q13,fun (x:Town×Town×Bool)=>Qz x.1 x.2.1 x.2.2⟩
theorem Zeb:Ok gG 131 ZcG:=mkA Tryz.func131 [((128,0),KZ),((17,0),Q2)] [] {tk:= [(0,1),(2,2),(3,1)],mo:= [(3,0)]} ⟨Zbi,Vx,tv⟩
def Zxh:Entry:=⟨aV (rCo q1 q9),qV q13,fun (x:Town×Int)=>Zig x.1 x.2⟩
theorem ZJL:Ok gG 63 Zxh:=mkA Tryz.func63 [((17,0),Q2),((130,0),Zxg),((131,0),ZcG)] [] {tk:= [(1,3),(2,6),(2,7),(2,9),(3,0),(3,2),(4,3),(4,4),(4,6)],mo:= [(4,1)]} ⟨Vx,ZJK,Zeb,tv⟩
def Zxi:Entry:=⟨aV (rCo q2 (rCo (rAg V4) q9)),qV (rTu (rCo (rAg V4) q17)),fun (x:(List Path)×Prio×Int)=>Zih x.1 x.2.1 x.2.2⟩
theorem ZJM:Ok gG 132 Zxi:=mkA Tryz.func132 [((212,0),Zgy)] [] {} ⟨Zlt,tv⟩
def Zxj:Entry:=⟨aV (rCo q1 q9),qV q13,fun (x:Town×Int)=>Zii x.1 x.2⟩
theorem ZJN:Ok gG 64 Zxj:=mkA Tryz.func64 [((17,0),Q2),((132,0),Zxi),((131,0),ZcG)] [] {tk:= [(1,3),(4,3),(4,4),(4,6)],mo:= [(4,1)]} ⟨Vx,ZJM,Zeb,tv⟩
def Zxk:Entry:=⟨aV (rCo q2 (rCo q12 q17)),qV rI,fun (x:(List Path)×(List Lamp)×Bool)=>Zij x.1 x.2.1 x.2.2⟩
theorem ZJO:Ok gG 218 Zxk:=mkA Tryz.func218 [((213,0),Zqk)] [(123,Zl)] {lv:= [(4,⟨[0,1,7],[],[],pV (rCo q2 (rCo q12 q9)),[]⟩)]} ⟨Zw7,tv⟩
def Zec:Entry:=⟨aV q28,qV rI,fun (x:Town)=>QP x⟩
theorem Zgz:Ok gG 136 Zec:=mkA Tryz.func136 [((218,0),Zxk)] [] {} ⟨ZJO,tv⟩
def Zqn:Entry:=⟨aV (rCo q1 q9),qV q8,fun (x:Town×Int)=>Ze5 x.1 x.2⟩
theorem Zxl:Ok gG 222 Zqn:=mkA Tryz.func222 [] [] {tk:= [(1,1),(5,0),(5,3),(5,4),(6,0),(6,1)],lv:= [(3,⟨[1,5,6],[(2,2,false)],[(2,13,false,false)],pVO (rCo rI q37) (YC (YD .shr .shr .shr .shr .shr .shr .shr)),[]⟩)]} tv
def Zed:Entry:=⟨aV q28,qV q8,fun (x:Town)=>ZaC x⟩
theorem ZgA:Ok gG 140 Zed:=mkA Tryz.func140 [((136,0),Zec),((127,0),Zgv),((222,0),Zqn)] [] {tk:= [(2,5),(3,2)]} ⟨Zgz,Zlr,Zxl,tv⟩
def Zlu:Entry:=⟨aV (rCo q4 q14),qV rB,fun (x:(List Int)×(List Int))=>Zdh x.1 x.2⟩
theorem Zqo:Ok gG 282 Zlu:=mkA Tryz.func282 [] [(3,iR)] {lv:= [(4,⟨[0,1,5],[],[],pV (rCo q4 q33),[]⟩)]} tv
def Zxm:Entry:=⟨aV (rCo q6 (rCo rI q14)),qV (rTu (rCo q20 q17)),fun (x:(List Note)×Int×(List Int))=>ZbX x.1 x.2.1 x.2.2⟩
theorem ZJP:Ok gG 215 Zxm:=mkA Tryz.func215 [((282,0),Zlu),((126,0),Zls),((58,0),Zgr),((209,0),Zd9),((62,0),Y6)] [(126,(Zb .shr))] {tk:= [(2,4),(2,6),(3,19)]} ⟨Zqo,Zqj,Zll,Zgw,Xg,tv⟩
def Zee:Entry:=⟨aV q3,qV rI,fun (x:Int×Int)=>VM x.1 x.2⟩
theorem ZgB:Ok gG 216 Zee:=mkA Tryz.func216 [] [] {} tv
def ZgC:Entry:=⟨aV (Zg q5),qV q5,fun (x:Town)=>QQ x⟩
theorem Zlv:Ok gG 133 ZgC:=mkA Tryz.func133 [((140,0),Zed),((58,0),Zgr),((215,0),Zxm),((126,0),Zls),((216,0),Zee)] [(126,(Zb .shr))] {tk:= [(0,0),(2,2),(4,6),(5,5),(5,6),(5,8),(7,2),(7,4),(7,5),(7,7),(9,0),(9,2),(10,1)],mo:= [(10,0)]} ⟨ZgA,Zll,ZJP,Zqj,ZgB,tv⟩
def Zxn:Entry:=⟨aV (rCo q1 (rCo rI (rCo rI q17))),qV q13,fun (x:Town×Int×Int×Bool)=>Zik x.1 x.2.1 x.2.2.1 x.2.2.2⟩
theorem ZJQ:Ok gG 65 Zxn:=mkA Tryz.func65 [((128,0),KZ),((17,0),Q2),((133,0),ZgC),((131,0),ZcG)] [(123,Zl)] {tk:= [(2,2),(3,3),(12,7),(12,9),(13,2),(13,3),(13,4),(13,6)],hb:= [((3,1),2),((6,2),1),((6,3),7),((8,1),1),((8,3),8),((8,4),9),((8,5),10),((8,10),1),((8,12),8),((8,13),9),((8,14),10),((9,1),1),((9,4),8),((9,5),9),((9,6),11),((12,1),12),((13,1),12)],ao:= [13],rt:= [((3,1),q16)],lv:= [(6,⟨[1,2,3,11,12],[(4,4,false),(8,8,false),(10,10,false)],[(4,13,false,false),(8,13,false,false),(10,13,false,false)],pVO (rCo rI (rCo rI (rCo rB (rCo rB q9)))) (XR (YD .shr .shr .shr .shr .shr .shr .shr) (XR (YD .own .own .own .own .own .own .own) (YC (YD .unq .unq .unq .unq .unq .unq .unq)))),[]⟩)]} ⟨Zbi,Vx,Zlv,Zeb,tv⟩
def Zxo:Entry:=⟨aV (rCo q1 q17),qV q13,fun (x:Town×Bool)=>Zil x.1 x.2⟩
theorem ZJR:Ok gG 66 Zxo:=mkA Tryz.func66 [((17,0),Q2),((128,0),KZ),((133,0),ZgC),((131,0),ZcG)] [] {tk:= [(1,3),(3,1),(5,2),(5,3),(5,4),(5,6)],mo:= [(3,0),(5,1)],ao:= [5]} ⟨Vx,Zbi,Zlv,Zeb,tv⟩
def Zlw:Entry:=⟨aV q27,qV q15,fun (x:(List Path)×Control)=>Zdi x.1 x.2⟩
theorem Zqp:Ok gG 220 Zlw:=mkA Tryz.func220 [((57,0),ZcF),((210,0),Jq),((216,0),Zee)] [] {tk:= [(1,3),(3,1),(6,1),(9,2),(9,3),(10,1)],mo:= [(3,0),(6,0),(9,1),(10,0)]} ⟨Zd6,Kj,ZgB,tv⟩
def ZgD:Entry:=⟨aV (rCo q2 q14),qV rI,fun (x:(List Path)×(List Int))=>ZbY x.1 x.2⟩
theorem Zlx:Ok gG 224 ZgD:=mkA Tryz.func224 [((135,0),Qj)] [(3,iR),(98,Ze)] {lv:= [(2,⟨[0,1,5],[],[],pV (rCo q2 q33),[]⟩)]} ⟨QK,tv⟩
def Zly:Entry:=⟨aV q27,qV rB,fun (x:(List Path)×Control)=>ZbZ x.1 x.2⟩
theorem Zqq:Ok gG 330 Zly:=mkA Tryz.func330 [((210,0),Jq),((224,0),ZgD)] [] {} ⟨Kj,Zlx,tv⟩
def Zxp:Entry:=⟨aV (rCo q10 q14),qV rI,fun (x:(List Want)×(List Int))=>Zim x.1 x.2⟩
theorem ZJS:Ok gG 365 Zxp:=mkA Tryz.func365 [((204,0),VZ)] [(119,Zc)] {lv:= [(3,⟨[0,1,5,6],[],[],pV (rCo q10 q34),[]⟩)]} ⟨Jp,tv⟩
def Zqr:Entry:=⟨aV q19,qV q8,fun (x:(List Path)×Control×(List Want))=>Ze6 x.1 x.2.1 x.2.2⟩
theorem Zxq:Ok gG 329 Zqr:=mkA Tryz.func329 [((365,0),Zxp),((210,0),Jq),((211,0),Zea),((205,0),Zln)] [] {tk:= [(3,1),(4,4)]} ⟨ZJS,Kj,Zgx,Zqe,tv⟩
def Zxr:Entry:=⟨aV q19,qV rB,fun (x:(List Path)×Control×(List Want))=>Zin x.1 x.2.1 x.2.2⟩
theorem ZJT:Ok gG 328 Zxr:=mkA Tryz.func328 [((204,0),VZ),((330,0),Zly),((329,0),Zqr)] [(119,Zc)] {lv:= [(3,⟨[0,2,7,8],[(4,4,false)],[(4,4,false,false)],pVO (rCo q2 (rCo q10 (rCo rB q9))) (YC (XD .shr .shr)),[]⟩)]} ⟨Jp,Zqq,Zxq,tv⟩
def Zqs:Entry:=⟨aV (rCo q2 (rCo q7 q14)),qV (rTu (rCo q15 q17)),fun (x:(List Path)×Control×(List Int))=>Ze7 x.1 x.2.1 x.2.2⟩
theorem Zxs:Ok gG 285 Zqs:=mkA Tryz.func285 [((57,0),ZcF),((330,0),Zly),((278,0),KY),((282,0),Zlu),((280,0),Zgu)] [] {tk:= [(1,3),(3,1),(6,3),(6,4),(7,4),(9,1)],mo:= [(3,0),(9,0)]} ⟨Zd6,Zqq,Zbh,Zqo,Zlq,tv⟩
def Zxt:Entry:=⟨aV q19,qV (rTu (rCo q15 (Zg q18))),fun (x:(List Path)×Control×(List Want))=>Zio x.1 x.2.1 x.2.2⟩
theorem ZJU:Ok gG 283 Zxt:=mkA Tryz.func283 [((210,0),Jq),((211,0),Zea),((57,0),ZcF),((220,0),Zlw),((328,0),Zxr),((329,0),Zqr),((285,0),Zqs),((127,0),Zgv),((135,0),Qj),((216,0),Zee)] [(3,iR),(119,Zc)] {tk:= [(1,1),(3,2),(3,5),(3,6),(4,4),(6,7),(6,8),(6,10),(7,3),(12,0),(12,15),(12,16),(13,1),(13,2),(13,3)],mo:= [(13,0)],lv:= [(9,⟨[0,2,8,10,11],[(6,6,false),(9,9,false)],[(6,4,false,false),(9,4,false,false)],pVO (rCo q2 (rCo q10 (rCo q18 q37))) (XR (XD .own .own) (YC (XD .own .own))),[]⟩)]} ⟨Kj,Zgx,Zd6,Zqp,ZJT,Zxq,Zxs,Zlr,QK,ZgB,tv⟩
def Zxu:Entry:=⟨aV (rCo q2 (rCo q7 q23)),qV rS,fun (x:(List Path)×Control×Prio)=>Zip x.1 x.2.1 x.2.2⟩
theorem ZJV:Ok gG 284 Zxu:=mkA Tryz.func284 [((210,0),Jq),((212,0),Zgy),((204,0),VZ),((330,0),Zly)] [] {} ⟨Kj,Zlt,Jp,Zqq,tv⟩
def Zqt:Entry:=⟨aV q19,qV q18,fun (x:(List Path)×Control×(List Want))=>Zdj x.1 x.2.1 x.2.2⟩
theorem Zxv:Ok gG 138 Zqt:=mkA Tryz.func138 [((127,0),Zgv),((135,0),Qj),((216,0),Zee)] [(3,iR),(119,Zc)] {tk:= [(1,1),(2,3),(7,0),(7,15),(7,16),(8,0),(8,1)],lv:= [(4,⟨[0,2,7,8,9],[],[],pV (rCo q2 (rCo q10 (rCo q18 q37))),[]⟩)]} ⟨Zlr,QK,ZgB,tv⟩
def Zxw:Entry:=⟨aV (rCo q2 (rCo q7 (rCo q10 q23))),qV (rTu (rCo q15 (rCo q18 q23))),fun (x:(List Path)×Control×(List Want)×Prio)=>Ziq x.1 x.2.1 x.2.2.1 x.2.2.2⟩
theorem ZJW:Ok gG 217 Zxw:=mkA Tryz.func217 [((210,0),Jq),((211,0),Zea),((212,0),Zgy),((57,0),ZcF),((283,0),Zxt),((284,0),Zxu),((220,0),Zlw),((138,0),Zqt),((205,0),Zln),((285,0),Zqs)] [] {tk:= [(2,6),(2,7),(3,4),(3,5),(3,6),(3,8),(3,9),(6,3),(7,4),(9,8),(9,9),(9,11),(10,4),(12,1),(12,9),(13,1),(13,3),(13,4)],mo:= [(13,0)],hb:= [((12,0),1),((12,8),6)]} ⟨Kj,Zgx,Zlt,Zd6,ZJU,ZJV,Zqp,Zxv,Zqe,Zxs,tv⟩
def Zxx:Entry:=⟨aV q28,qV q13,fun (x:Town)=>Zir x⟩
theorem ZJX:Ok gG 134 Zxx:=mkA Tryz.func134 [((128,0),KZ),((17,0),Q2),((136,0),Zec),((217,0),Zxw),((133,0),ZgC),((131,0),ZcG)] [] {tk:= [(2,2),(3,3),(6,9),(6,10),(6,11),(6,15),(6,16),(7,2),(8,0),(8,2),(10,2),(10,3),(10,4),(10,6)],mo:= [(7,0),(10,1)],ao:= [10]} ⟨Zbi,Vx,Zgz,ZJW,Zlv,Zeb,tv⟩
def Zxy:Entry:=⟨aV (rCo q1 q9),qV q13,fun (x:Town×Int)=>Zis x.1 x.2⟩
theorem ZJY:Ok gG 67 Zxy:=mkA Tryz.func67 [((17,0),Q2),((62,0),Y6),((134,0),Zxx)] [] {tk:= [(1,3),(3,1),(7,2),(7,3),(7,6),(9,2),(10,1),(11,1)],mo:= [(3,0),(10,0),(11,0)],lv:= [(5,⟨[1,7],[(2,2,false),(4,4,false),(6,6,false)],[(2,13,false,false),(4,13,false,false),(6,13,false,false)],pVO q3 (XR (YD .shr .shr .shr .shr .shr .shr .shr) (XR (YD .own .own .own .own .own .own .own) (YC (YD .own .own .own .own .own .own .own)))),[]⟩)]} ⟨Vx,Xg,ZJX,tv⟩
def Zxz:Entry:=⟨aV q27,qV rB,fun (x:(List Path)×Control)=>Zit x.1 x.2⟩
theorem ZJZ:Ok gG 286 Zxz:=mkA Tryz.func286 [((224,0),ZgD),((210,0),Jq)] [] {} ⟨Zlx,Kj,tv⟩
def ZxA:Entry:=⟨aV q38,qV (rTu (rCo q15 q17)),fun (x:(List Path)×Control×Int)=>Ziu x.1 x.2.1 x.2.2⟩
theorem ZJ0:Ok gG 219 ZxA:=mkA Tryz.func219 [((57,0),ZcF),((135,0),Qj),((286,0),Zxz),((204,0),VZ),((280,0),Zgu)] [(98,Ze)] {tk:= [(1,3),(4,1),(7,2),(7,3),(8,3),(10,1)],mo:= [(4,0),(10,0)]} ⟨Zd6,QK,ZJZ,Jp,Zlq,tv⟩
def Zqu:Entry:=⟨aV q38,qV q15,fun (x:(List Path)×Control×Int)=>Ze8 x.1 x.2.1 x.2.2⟩
theorem ZxB:Ok gG 137 Zqu:=mkA Tryz.func137 [((219,0),ZxA),((220,0),Zlw)] [] {tk:= [(1,4),(1,5),(1,8),(3,1),(4,3)],mo:= [(3,0)]} ⟨ZJ0,Zqp,tv⟩
def ZxC:Entry:=⟨aV (rCo q1 q9),qV q13,fun (x:Town×Int)=>Ziv x.1 x.2⟩
theorem ZJ1:Ok gG 68 ZxC:=mkA Tryz.func68 [((135,0),Qj),((128,0),KZ),((17,0),Q2),((136,0),Zec),((137,0),Zqu),((138,0),Zqt),((133,0),ZgC),((131,0),ZcG)] [(98,Ze)] {tk:= [(3,2),(4,3),(7,7),(8,8),(12,2),(12,3),(12,4),(12,6)],mo:= [(12,1)],ao:= [12]} ⟨QK,Zbi,Vx,Zgz,ZxB,Zxv,Zlv,Zeb,tv⟩
def ZxD:Entry:=⟨aV (rCo q1 (Zg (rAg Znp))),qV q13,fun (x:Town×Evt)=>Ze9 x.1 x.2⟩
theorem ZJ2:Ok gG 21 ZxD:=mkA Tryz.func21 [((63,0),Zxh),((64,0),Zxj),((65,0),Zxn),((66,0),Zxo),((67,0),Zxy),((68,0),ZxC),((17,0),Q2)] [] {tk:= [(3,4),(3,6),(5,4),(5,6),(7,8),(7,10),(9,4),(9,6),(11,4),(11,6),(13,4),(13,6),(14,2)]} ⟨ZJL,ZJN,ZJQ,ZJR,ZJY,ZJ1,Vx,tv⟩
def ZgE:Entry:=⟨aV (rCo q25 q32),qV rS,fun (x:(List ByteArray)×ByteArray)=>V6 x.1 x.2⟩
theorem Zlz:Ok gG 221 ZgE:=mkA Tryz.func221 [] [(9,sR)] {lv:= [(3,⟨[0,1,5,6],[],[],pV (rCo q25 (rCo rS (rCo rS q9))),[]⟩)]} tv
def ZlA:Entry:=⟨aV q14,qV rS,fun (x:List Int)=>Zb0 x⟩
theorem Zqv:Ok gG 139 ZlA:=mkA Tryz.func139 [((62,0),Y6),((221,0),ZgE)] [(3,iR)] {tk:= [(1,1),(8,0),(8,3),(8,4),(9,0)],lv:= [(3,⟨[0,3,4],[],[],pV (rCo q4 (rCo q35 q9)),[]⟩)]} ⟨Xg,Zlz,tv⟩
def ZxE:Entry:=⟨aV (rCo q12 q3),qV rB,fun (x:(List Lamp)×Int×Int)=>Zfa x.1 x.2.1 x.2.2⟩
theorem ZJ3:Ok gG 287 ZxE:=mkA Tryz.func287 [] [(123,Zl)] {lv:= [(2,⟨[0,1,2,7],[],[],pV (rCo q12 q21),[]⟩)]} tv
def ZxF:Entry:=⟨aV (rCo q2 (rCo q12 q14)),qV q8,fun (x:(List Path)×(List Lamp)×(List Int))=>Ziw x.1 x.2.1 x.2.2⟩
theorem ZJ4:Ok gG 223 ZxF:=mkA Tryz.func223 [((287,0),ZxE)] [(3,iR),(98,Ze)] {tk:= [(1,1),(8,0),(8,3),(8,4),(9,0),(9,1)],lv:= [(3,⟨[0,1,2,7,8],[],[],pV (rCo q2 (rCo q12 (rCo q4 q37))),[]⟩)]} ⟨ZJ3,tv⟩
def ZxG:Entry:=⟨aV q28,qV q8,fun (x:Town)=>Zix x⟩
theorem ZJ5:Ok gG 141 ZxG:=mkA Tryz.func141 [((136,0),Zec),((140,0),Zed),((223,0),ZxF),((222,0),Zqn)] [] {tk:= [(2,7),(3,2)]} ⟨Zgz,ZgA,ZJ4,Zxl,tv⟩
def Zef:Entry:=⟨aV q14,qV rS,fun (x:List Int)=>JO x⟩
theorem ZgF:Ok gG 146 Zef:=mkA Tryz.func146 [((129,0),KX),((221,0),ZgE)] [(3,iR)] {tk:= [(1,1),(5,0),(5,7),(5,8),(6,0)],lv:= [(3,⟨[0,3,4],[],[],pV (rCo q4 (rCo q35 q9)),[]⟩)]} ⟨Zbg,Zlz,tv⟩
def ZxH:Entry:=⟨aV (Zg q7),qV rS,fun (x:Control)=>Ziy x⟩
theorem ZJ6:Ok gG 142 ZxH:=mkA Tryz.func142 [((146,0),Zef),((129,0),KX)] [] {} ⟨ZgF,Zbg,tv⟩
def ZxI:Entry:=⟨aV q30,qV rS,fun (x:List Path)=>Ziz x⟩
theorem ZJ7:Ok gG 143 ZxI:=mkA Tryz.func143 [((124,0),Zqc),((221,0),ZgE)] [(98,Ze)] {tk:= [(1,1),(5,0),(5,7),(5,8),(6,0)],lv:= [(3,⟨[0,3,4],[],[],pV (rCo q2 (rCo q35 q9)),[]⟩)]} ⟨ZwW,Zlz,tv⟩
def ZxJ:Entry:=⟨aV (Zg q11),qV (rX .own 1 q14),fun (x:List Part)=>ZiA x⟩
theorem ZJ8:Ok gG 289 ZxJ:=mkA Tryz.func289 [] [(189,(ZI .shr))] {tk:= [(1,1),(5,0),(5,7),(5,8),(6,0),(6,1)],lv:= [(3,⟨[0,3,4],[],[],pV (rCo q11 (rCo (rX .own 1 q14) q9)),[]⟩)]} tv
def ZxK:Entry:=⟨aV (rCo q2 (Zg q22)),qV rB,fun (x:((List Path)×(List (List Int))))=>ZiB x.1 x.2⟩
theorem ZJ9:Ok gG 288 ZxK:=mkA Tryz.func288 [((278,0),KY),((204,0),VZ),((203,0),Jo)] [(23,q14),(98,Ze)] {lv:= [(2,⟨[0,1,5],[],[],pV (rCo q2 (rCo q22 q9)),[]⟩),(7,⟨[0,1,6],[],[],pV (rCo q2 (rCo q22 q9)),[]⟩),(11,⟨[0,1,6,7,8],[],[],pV (rCo q2 (rCo q22 (rCo rI (rCo rB q9)))),[]⟩)]} ⟨Zbh,Jp,Ki,tv⟩
def Zqw:Entry:=⟨aV (rCo q2 (Zg q11)),qV rB,fun (x:(List Path)×(List Part))=>Zfb x.1 x.2⟩
theorem ZxL:Ok gG 225 Zqw:=mkA Tryz.func225 [((62,0),Y6),((278,0),KY),((224,0),ZgD),((289,0),ZxJ),((288,0),ZxK)] [(189,(ZI .shr))] {lv:= [(4,⟨[0,1,5],[],[],pV q29,[]⟩)]} ⟨Xg,Zbh,Zlx,ZJ8,ZJ9,tv⟩
def Zqx:Entry:=⟨aV q30,qV (rX .own 2 (ZI .shr)),fun (x:List Path)=>Zfc x⟩
theorem ZxM:Ok gG 145 Zqx:=mkA Tryz.func145 [((125,0),Zqf),((224,0),ZgD),((225,0),Zqw)] [(23,q14)] {tk:= [(1,1),(2,2),(6,0),(6,13),(6,14),(8,1),(9,0),(9,1)],lv:= [(4,⟨[0,3,4,5],[],[],pV (rCo q2 (rCo (rX .own 2 (ZI .shr)) (rCo (rX .own 1 q14) q9))),[]⟩)]} ⟨Zw1,Zlx,ZxL,tv⟩
def ZxN:Entry:=⟨aV (Zg q11),qV rS,fun (x:List Part)=>Zfd x⟩
theorem ZKa:Ok gG 144 ZxN:=mkA Tryz.func144 [((146,0),Zef),((129,0),KX),((221,0),ZgE)] [(189,(ZI .shr))] {tk:= [(1,1),(5,0),(5,16),(5,17),(6,0)],lv:= [(3,⟨[0,3,4],[],[],pV (rCo q11 (rCo q35 q9)),[]⟩)]} ⟨ZgF,Zbg,Zlz,tv⟩
def ZxO:Entry:=⟨aV (rCo q2 q14),qV rB,fun (x:(List Path)×(List Int))=>ZiC x.1 x.2⟩
theorem ZKb:Ok gG 331 ZxO:=mkA Tryz.func331 [((204,0),VZ),((206,0),Zlm),((278,0),KY)] [(98,Ze)] {lv:= [(2,⟨[0,1,5],[],[],pV (rCo q2 q33),[]⟩)]} ⟨Jp,Zqd,Zbh,tv⟩
def Zqy (n:Nat):Entry:=⟨aV (rCo q2 (rCo rI (rCo q8 (Zg q36)))),qV q36,fun (x:((List Path)×Int×(List Int)×(List (List Int))))=>Zfe n x.1 x.2.1 x.2.2.1 x.2.2.2⟩
def ZxP:Entry:=Zqy 64
theorem ZxQ:∀n,Ok gG 290 (Zqy n)
 | 0=>by intro x r hr;cases hr
 |n + 1=>mk Tryz.func290 (by kernel_rfl) [((331,0),ZxO),((278,0),KY),((290,0),Zqy n)] [] n0 [(98,Ze)] {tk:= [(3,0),(3,2),(3,3),(3,4),(3,5),(3,6),(4,0),(4,1),(5,9),(5,10),(7,3),(7,4),(7,5),(7,6),(8,3),(8,4),(8,5),(8,6)]} ⟨ZKb,Zbh,ZxQ n,tv⟩ tv (fun x=>by kernel_rfl)
theorem ZKc:Ok gG 290 ZxP:=ZxQ 64
def ZxR:Entry:=⟨aV q30,qV q36,fun (x:List Path)=>ZiD x⟩
theorem ZKd:Ok gG 226 ZxR:=mkA Tryz.func226 [((203,0),Jo),((290,0),ZxP)] [] {tk:= [(2,1),(3,3),(3,4)]} ⟨Ki,ZKc,tv⟩
def ZxS:Entry:=⟨aV q30,qV q8,fun (x:List Path)=>ZiE x⟩
theorem ZKe:Ok gG 147 ZxS:=mkA Tryz.func147 [((226,0),ZxR)] [(23,q14)] {tk:= [(1,1),(2,2),(6,0),(6,7),(6,8),(7,0),(7,1)],lv:= [(4,⟨[3,4,5],[],[],pV (rCo q8 (rCo q36 q9)),[]⟩)]} ⟨ZKd,tv⟩
def ZxT:Entry:=⟨aV q9,qV rS,fun (x:Int)=>ZnI x⟩
theorem ZKf:Ok gG 227 ZxT:=mkA Tryz.func227 [((62,0),Y6)] [(9,sR)] {} ⟨Xg,tv⟩
def ZxU:Entry:=⟨aV q28,qV rS,fun (x:Town)=>ZiF x⟩
theorem ZKg:Ok gG 148 ZxU:=mkA Tryz.func148 [((129,0),KX),((136,0),Zec),((227,0),ZxT),((146,0),Zef)] [] {} ⟨Zbg,Zgz,ZKf,ZgF,tv⟩
def ZxV:Entry:=⟨aV q28,qV rB,fun (x:Town)=>ZiG x⟩
theorem ZKh:Ok gG 228 ZxV:=mkA Tryz.func228 [((140,0),Zed),((281,0),Zql)] [] {} ⟨ZgA,Zw8,tv⟩
def Zqz:Entry:=⟨aV (rCo q6 q9),qV rI,fun (x:(List Note)×Int)=>Zff x.1 x.2⟩
theorem ZxW:Ok gG 234 Zqz:=mkA Tryz.func234 [((209,0),Zd9)] [(126,(Zb .shr))] {lv:= [(3,⟨[0,1,5,6],[],[],pV (rCo q6 q21),[]⟩)]} ⟨Zgw,tv⟩
def ZgG:Entry:=⟨aV (rCo q6 q9),qV (rTu (rCo q8 q17)),fun (x:(List Note)×Int)=>Zb1 x.1 x.2⟩
theorem ZlB:Ok gG 153 ZgG:=mkA Tryz.func153 [((234,0),Zqz)] [(126,(Zb .shr))] {tk:= [(3,1),(4,7)]} ⟨ZxW,tv⟩
def ZxX:Entry:=⟨aV q28,qV rB,fun (x:Town)=>ZiH x⟩
theorem ZKi:Ok gG 229 ZxX:=mkA Tryz.func229 [((153,0),ZgG),((140,0),Zed),((282,0),Zlu)] [] {tk:= [(1,5),(1,6),(1,8),(2,2)]} ⟨ZlB,ZgA,Zqo,tv⟩
def ZxY:Entry:=⟨aV q30,qV rI,fun (x:List Path)=>ZiI x⟩
theorem ZKj:Ok gG 332 ZxY:=mkA Tryz.func332 [((203,0),Jo),((327,0),Zlo),((232,0),Zlp)] [(98,Ze)] {lv:= [(3,⟨[0,3,4],[],[],pV q26,[]⟩)]} ⟨Ki,Zqg,Zqh,tv⟩
def ZxZ:Entry:=⟨aV q30,qV rI,fun (x:List Path)=>ZiJ x⟩
theorem ZKk:Ok gG 291 ZxZ:=mkA Tryz.func291 [((332,0),ZxY)] [] {} ⟨ZKj,tv⟩
def Zx0:Entry:=⟨aV q28,qV rB,fun (x:Town)=>ZiK x⟩
theorem ZKl:Ok gG 230 Zx0:=mkA Tryz.func230 [((291,0),ZxZ)] [(119,Zc)] {lv:= [(2,⟨[3],[(1,1,false)],[(1,13,false,false)],pVO q9 (YC (YD .shr .shr .shr .shr .shr .shr .shr)),[]⟩)]} ⟨ZKk,tv⟩
def Zx1:Entry:=⟨aV q28,qV rS,fun (x:Town)=>ZiL x⟩
theorem ZKm:Ok gG 149 Zx1:=mkA Tryz.func149 [((128,0),KZ),((228,0),ZxV),((229,0),ZxX),((230,0),Zx0)] [] {} ⟨Zbi,ZKh,ZKi,ZKl,tv⟩
def Zx2:Entry:=⟨aV (rCo q1 q32),qV rS,fun (x:Town×ByteArray)=>Zfg x.1 x.2⟩
theorem ZKn:Ok gG 69 Zx2:=mkA Tryz.func69 [((140,0),Zed),((139,0),ZlA),((141,0),ZxG),((142,0),ZxH),((143,0),ZxI),((145,0),Zqx),((144,0),ZxN),((147,0),ZxS),((146,0),Zef),((148,0),ZxU),((149,0),Zx1)] [] {} ⟨ZgA,Zqv,ZJ5,ZJ6,ZJ7,ZxM,ZKa,ZKe,ZgF,ZKg,ZKm,tv⟩
def Zx3:Entry:=⟨aV (rCo q2 q9),qV q8,fun (x:(List Path)×Int)=>ZiM x.1 x.2⟩
theorem ZKo:Ok gG 150 Zx3:=mkA Tryz.func150 [((135,0),Qj),((203,0),Jo),((156,0),Zd8)] [(98,Ze)] {tk:= [(1,1),(7,0),(7,7),(7,8),(8,0),(8,1)],lv:= [(4,⟨[0,5,6,7],[],[],pV (rCo q2 (rCo q8 q3)),[]⟩)]} ⟨QK,Ki,Zgt,tv⟩
def Zx4:Entry:=⟨aV q29,qV rI,fun (x:(List Path)×(List Part)×Int)=>ZiN x.1 x.2.1 x.2.2⟩
theorem ZKp:Ok gG 292 Zx4:=mkA Tryz.func292 [((280,0),Zgu)] [(189,(ZI .shr))] {} ⟨Zlq,tv⟩
def Zx5:Entry:=⟨aV (rCo q2 (rCo q11 q21)),qV rI,fun (x:(List Path)×(List Part)×Int×Int×Int)=>ZiO x.1 x.2.1 x.2.2.1 x.2.2.2.1 x.2.2.2.2⟩
theorem ZKq:Ok gG 293 Zx5:=mkA Tryz.func293 [((204,0),VZ),((135,0),Qj),((327,0),Zlo)] [(98,Ze),(189,(ZI .shr))] {} ⟨Jp,QK,Zqg,tv⟩
def Zx6:Entry:=⟨aV q29,qV q8,fun (x:(List Path)×(List Part)×Int)=>Zdk x.1 x.2.1 x.2.2⟩
theorem ZKr:Ok gG 231 Zx6:=mkA Tryz.func231 [((225,0),Zqw),((135,0),Qj),((292,0),Zx4),((293,0),Zx5)] [] {tk:= [(1,1),(3,0),(3,1),(10,0),(10,8),(10,9),(11,0),(11,1)],lv:= [(5,⟨[0,1,2,7,8],[],[],pV (rCo q2 (rCo q11 (rCo rI q37))),[]⟩),(8,⟨[0,1,2,7,8,9],[],[],pV (rCo q2 (rCo q11 (rCo rI (rCo q8 q3)))),[]⟩)]} ⟨ZxL,QK,ZKp,ZKq,tv⟩
def Zx7:Entry:=⟨aV q29,qV rI,fun (x:(List Path)×(List Part)×Int)=>Zdl x.1 x.2.1 x.2.2⟩
theorem ZKs:Ok gG 151 Zx7:=mkA Tryz.func151 [((231,0),Zx6),((232,0),Zlp),((216,0),Zee)] [(3,iR)] {tk:= [(1,4),(11,1)],lv:= [(5,⟨[7,8,9,10],[],[],pV (rCo q8 q21),[]⟩)]} ⟨ZKr,Zqh,ZgB,tv⟩
def Zx8:Entry:=⟨aV q38,qV rB,fun (x:(List Path)×Control×Int)=>ZiP x.1 x.2.1 x.2.2⟩
theorem ZKt:Ok gG 233 Zx8:=mkA Tryz.func233 [((204,0),VZ)] [] {} ⟨Jp,tv⟩
def Zx9:Entry:=⟨aV q38,qV rI,fun (x:(List Path)×Control×Int)=>ZiQ x.1 x.2.1 x.2.2⟩
theorem ZKu:Ok gG 152 Zx9:=mkA Tryz.func152 [((135,0),Qj),((210,0),Jq),((233,0),Zx8),((137,0),Zqu)] [(98,Ze)] {tk:= [(6,4)],lv:= [(5,⟨[0,2,8],[(4,4,false)],[(4,4,false,false)],pVO q26 (YC (XD .shr .shr)),[]⟩)]} ⟨QK,Kj,ZKt,ZxB,tv⟩
def Zya:Entry:=⟨aV (rCo q1 (rCo rS q9)),qV rS,fun (x:Town×ByteArray×Int)=>Zfh x.1 x.2.1 x.2.2⟩
theorem ZKv:Ok gG 70 Zya:=mkA Tryz.func70 [((150,0),Zx3),((146,0),Zef),((145,0),Zqx),((151,0),Zx7),((129,0),KX),((152,0),Zx9),((153,0),ZgG),((139,0),ZlA)] [] {tk:= [(9,4),(9,5),(9,7),(12,0)]} ⟨ZKo,ZgF,ZxM,ZKs,Zbg,ZKu,ZlB,Zqv,tv⟩
def Zyb:Entry:=⟨aV (rCo q1 q9),qV rI,fun (x:Town×Int)=>ZnJ x.1 x.2⟩
theorem ZKw:Ok gG 154 Zyb:=mkA Tryz.func154 [((135,0),Qj)] [] {} ⟨QK,tv⟩
def Zyc:Entry:=⟨aV (rCo q6 q3),qV rI,fun (x:(List Note)×Int×Int)=>ZiR x.1 x.2.1 x.2.2⟩
theorem ZKx:Ok gG 235 Zyc:=mkA Tryz.func235 [((153,0),ZgG),((62,0),Y6)] [(3,iR)] {tk:= [(1,3),(1,4),(1,6),(4,0)]} ⟨ZlB,Xg,tv⟩
def Zyd:Entry:=⟨aV (rCo q6 q3),qV rI,fun (x:(List Note)×Int×Int)=>ZiS x.1 x.2.1 x.2.2⟩
theorem ZKy:Ok gG 155 Zyd:=mkA Tryz.func155 [((235,0),Zyc),((234,0),Zqz)] [(3,iR),(126,(Zb .shr))] {lv:= [(4,⟨[0,1,2,7],[],[],pV (rCo q6 q21),[]⟩)]} ⟨ZKx,ZxW,tv⟩
def Zye:Entry:=⟨aV (rCo q1 q3),qV (rTu (rCo (rAg Vc) q17)),fun (x:Town×Int×Int)=>ZaD x.1 x.2.1 x.2.2⟩
theorem ZKz:Ok gG 71 Zye:=mkA Tryz.func71 [((154,0),Zyb),((128,0),KZ),((153,0),ZgG),((155,0),Zyd),((156,0),Zd8)] [(3,iR),(98,Ze)] {tk:= [(4,4),(4,5),(4,7)],lv:= [(9,⟨[8,9,12],[(3,3,false),(6,6,false),(11,11,false)],[(3,13,false,false),(6,5,false,false),(11,5,false,false)],pVO (rCo rI q37) (XR (YD .shr .shr .shr .shr .shr .shr .shr) (XR Vc (YC Vc))),[]⟩)]} ⟨ZKw,Zbi,ZlB,ZKy,Zgt,tv⟩
def Zyf:Entry:=⟨aV (Zg (rAg Vc)),qV rS,fun (x:Report)=>ZiT x⟩
theorem ZKA:Ok gG 72 Zyf:=mkA Tryz.func72 [((129,0),KX),((139,0),ZlA)] [] {} ⟨Zbg,Zqv,tv⟩
def Zyg:Entry:=⟨aV (rCo (rAg Vc) (Zg (rAg Vc))),qV rS,fun (x:Report×Report)=>Zfi x.1 x.2⟩
theorem ZKB:Ok gG 73 Zyg:=mkA Tryz.func73 [((62,0),Y6)] [] {} ⟨Xg,tv⟩
def Zyh:Entry:=⟨aV (rCo q1 (rCo rS q14)),qV rS,fun (x:Town×ByteArray×(List Int))=>Qa x.1 x.2.1 x.2.2⟩
theorem ZKC:Ok gG 23 Zyh:=mkA Tryz.func23 [((69,0),Zx2),((70,0),Zya),((71,0),Zye),((72,0),Zyf),((73,0),Zyg)] [(3,iR)] {} ⟨ZKn,ZKv,ZKz,ZKA,ZKB,tv⟩
def Zyi:Entry:=⟨aV (rCo q1 q32),qV (rTu (rCo q1 q32)),fun (x:Town×ByteArray)=>ZiU x.1 x.2⟩
theorem ZKD:Ok gG 5 Zyi:=mkA Tryz.func5 [((16,0),ZwV),((17,0),Q2),((18,0),Zxc),((19,0),Zxe),((20,0),Zxf),((21,0),ZxD),((22,0),Zqm),((23,0),Zyh)] [(9,sR)] {tk:= [(1,2),(3,2),(5,1),(6,3),(6,4),(6,6),(8,2),(11,3),(11,4),(11,7),(13,3),(13,6),(13,8)],mo:= [(12,1)]} ⟨ZJv,Vx,ZJG,ZJI,ZJJ,ZJ2,Zxb,ZKC,tv⟩
def ZqA:Entry:=⟨aV q30,qV (rX .own 4 Ze),fun (x:List Path)=>Yw x⟩
theorem Zyj:Ok gG 80 ZqA:=mkA Tryz.func80 [] [] {tk:= [(3,3)]} tv
def ZlC:Entry:=⟨aV (Zg q10),qV q18,fun (x:List Want)=>JP x⟩
theorem ZqB:Ok gG 81 ZlC:=mkA Tryz.func81 [] [] {tk:= [(3,3)]} tv
def Zyk:Entry:=⟨aV (Zg q12),qV (rX .own 3 Zl),fun (x:List Lamp)=>ZiV x⟩
theorem ZKE:Ok gG 82 Zyk:=mkA Tryz.func82 [] [] {tk:= [(3,3)]} tv
def K0:Entry:=⟨aV q14,qV q8,fun (x:List Int)=>Vh x⟩
theorem Zbj:Ok gG 160 K0:=mkA Tryz.func160 [] [] {tk:= [(3,3)]} tv
def Zeg:Entry:=⟨aV (Zg q7),qV q15,fun (x:Control)=>JQ x⟩
theorem ZgH:Ok gG 83 Zeg:=mkA Tryz.func83 [((160,0),K0)] [] {tk:= [(1,7),(1,9),(2,1)],mo:= [(2,0)]} ⟨Zbj,tv⟩
def ZlD:Entry:=⟨aV (Zg q6),qV q20,fun (x:List Note)=>Zb2 x⟩
theorem ZqC:Ok gG 84 ZlD:=mkA Tryz.func84 [((160,0),K0)] [(126,(Zb .shr))] {tk:= [(1,1),(5,4),(6,0),(6,2),(6,3),(6,4),(8,0),(8,1)],mo:= [(6,1)],lv:= [(3,⟨[3,7,8,9],[],[],pV (rCo q20 (rCo q6 q3)),[]⟩)]} ⟨Zbj,tv⟩
def Jr:Entry:=⟨aV q28,qV q5,fun (x:Town)=>Yt x⟩
theorem Kk:Ok gG 31 Jr:=mkA Tryz.func31 [((80,0),ZqA),((81,0),ZlC),((82,0),Zyk),((83,0),Zeg),((84,0),ZlD)] [] {tk:= [(1,10),(1,12),(1,14),(2,7),(2,9),(3,1)],mo:= [(3,0)]} ⟨Zyj,ZqB,ZKE,ZgH,ZqC,tv⟩
def ZqD:Entry:=⟨aV q32,qV (rTu (rCo rI q17)),fun (x:ByteArray)=>Zfj x⟩
theorem Zyl:Ok gG 90 ZqD:=mkA Tryz.func90 [] [] {lv:= [(5,⟨[0,4,25,26],[],[],pV (rCo rS q21),[]⟩)]} tv
def X7:Entry:=⟨aV q21,qV rB,fun (x:Int×Int×Int)=>Ys x.1 x.2.1 x.2.2⟩
theorem Qk:Ok gG 175 X7:=mkA Tryz.func175 [] [] {} tv
def ZgI:Entry:=⟨aV q24,qV rB,fun (x:Path)=>ZaE x⟩
theorem ZlE:Ok gG 244 ZgI:=mkA Tryz.func244 [((175,0),X7)] [] {} ⟨Qk,tv⟩
def Zbk:Entry:=⟨aV q9,qV rS,fun (x:Int)=>X1 x⟩
theorem ZcH:Ok gG 107 Zbk:=mkA Tryz.func107 [((194,0),Zwx)] [] {} ⟨ZI9,tv⟩
def ZqE:Entry:=⟨aV q24,qV rS,fun (x:Path)=>Zfk x⟩
theorem Zym:Ok gG 162 ZqE:=mkA Tryz.func162 [((244,0),ZgI),((107,0),Zbk)] [] {} ⟨ZlE,ZcH,tv⟩
def Zyn:Entry:=⟨aV q32,qV (rTu (rCo (rAg Ze) q17)),fun (x:ByteArray)=>ZiW x⟩
theorem ZKF:Ok gG 85 Zyn:=mkA Tryz.func85 [((90,0),ZqD),((161,0),Zww),((162,0),ZqE)] [] {} ⟨Zyl,ZI8,Zym,tv⟩
def Zyo:Entry:=⟨aV (Zg q25),qV (rTu (rCo q2 q17)),fun (x:List ByteArray)=>ZiX x⟩
theorem ZKG:Ok gG 32 Zyo:=mkA Tryz.func32 [((85,0),Zyn)] [(9,sR)] {tk:= [(1,1),(8,0),(8,3),(8,4),(10,1)],lv:= [(3,⟨[4,10,11,12],[],[],pV (rCo (rX .own 4 Ze) (rCo q25 q3)),[]⟩)]} ⟨ZKF,tv⟩
def Js:Entry:=⟨aV q30,qV rB,fun (x:List Path)=>Vi x⟩
theorem Kl:Ok gG 163 Js:=mkA Tryz.func163 [((244,0),ZgI)] [(98,Ze)] {lv:= [(4,⟨[0,8,9,10],[],[],pV (rCo q2 q26),[]⟩)]} ⟨ZlE,tv⟩
def Zyp:Entry:=⟨aV q33,qV rI,fun (x:(List Int)×Int)=>ZnK x.1 x.2⟩
theorem ZKH:Ok gG 251 Zyp:=mkA Tryz.func251 [] [(3,iR)] {lv:= [(2,⟨[0,1,7,8],[],[],pV (rCo q4 q21),[]⟩)]} tv
def Km:Entry:=⟨aV q33,qV rB,fun (x:(List Int)×Int)=>QR x.1 x.2⟩
theorem K2:Ok gG 170 Km:=mkA Tryz.func170 [((251,0),Zyp)] [] {} ⟨ZKH,tv⟩
def Zyq:Entry:=⟨aV (rCo q4 q31),qV rB,fun (x:(List Int)×Int)=>ZnL x.1 x.2⟩
theorem ZKI:Ok gG 246 Zyq:=mkA Tryz.func246 [((170,0),Km)] [] {} ⟨K2,tv⟩
def Zyr:Entry:=⟨aV (rCo q22 (Zg (rFn 246 q31))),qV rI,fun (x:((List (List Int))×Int))=>ZnM x.1 x.2⟩
theorem ZKJ:Ok gG 299 Zyr:=mkA Tryz.func299 [((246,0),Zyq)] [(23,q14)] {lv:= [(2,⟨[0,1,7,8],[],[],pV (rCo q22 (rCo (rFn 246 q31) q3)),[]⟩)]} ⟨ZKI,tv⟩
def Zys:Entry:=⟨aV (rCo q22 (Zg (rFn 246 q31))),qV rB,fun (x:((List (List Int))×Int))=>ZnN x.1 x.2⟩
theorem ZKK:Ok gG 245 Zys:=mkA Tryz.func245 [((299,0),Zyr)] [] {} ⟨ZKJ,tv⟩
def ZqF:Entry:=⟨aV (rCo q22 q9),qV rB,fun (x:((List (List Int))×Int))=>Zfl x.1 x.2⟩
theorem Zyt:Ok gG 164 ZqF:=mkA Tryz.func164 [((245,0),Zys)] [] {} ⟨ZKK,tv⟩
def Zyu:Entry:=⟨aV (rCo (rAg Ze) q31),qV rB,fun (x:Path×Int)=>ZnO x.1 x.2⟩
theorem ZKL:Ok gG 268 Zyu:=mkA Tryz.func268 [] [] {} tv
def Zyv:Entry:=⟨aV (rCo q2 (Zg (rFn 268 q31))),qV rI,fun (x:(List Path)×Int)=>ZnP x.1 x.2⟩
theorem ZKM:Ok gG 267 Zyv:=mkA Tryz.func267 [((268,0),Zyu)] [(98,Ze)] {lv:= [(2,⟨[0,1,7,8],[],[],pV (rCo q2 (rCo (rFn 268 q31) q3)),[]⟩)]} ⟨ZKL,tv⟩
def Q3:Entry:=⟨aV (rCo q2 q9),qV rI,fun (x:(List Path)×Int)=>Xu x.1 x.2⟩
theorem Vy:Ok gG 192 Q3:=mkA Tryz.func192 [((267,0),Zyv)] [] {} ⟨ZKM,tv⟩
def Zyw:Entry:=⟨aV q9,qV rI,fun (x:Int)=>JR x⟩
theorem ZKN:Ok gG 270 Zyw:=mkA Tryz.func270 [((175,0),X7)] [] {} ⟨Qk,tv⟩
def Zyx:Entry:=⟨aV q9,qV rI,fun (x:Int)=>JS x⟩
theorem ZKO:Ok gG 271 Zyx:=mkA Tryz.func271 [((175,0),X7)] [] {} ⟨Qk,tv⟩
def Zyy:Entry:=⟨aV (rCo rI q21),qV rB,fun (x:Int×Int×Int×Int)=>Zb3 x.1 x.2.1 x.2.2.1 x.2.2.2⟩
theorem ZKP:Ok gG 269 Zyy:=mkA Tryz.func269 [((175,0),X7)] [(3,iR)] {lv:= [(2,⟨[0,1,2,3,16,17,18],[],[],pV (rCo rI (rCo rI (rCo rI (rCo rI (rCo q8 q3))))),[]⟩)]} ⟨Qk,tv⟩
def ZcI:Entry:=⟨aV (rCo (rAg Ze) q24),qV rB,fun (x:Path×Path)=>JT x.1 x.2⟩
theorem Zeh:Ok gG 193 ZcI:=mkA Tryz.func193 [((244,0),ZgI),((270,0),Zyw),((271,0),Zyx),((269,0),Zyy)] [] {} ⟨ZlE,ZKN,ZKO,ZKP,tv⟩
def ZcJ:Entry:=⟨aV (rCo q2 q14),qV rB,fun (x:(List Path)×(List Int))=>VN x.1 x.2⟩
theorem Zei:Ok gG 247 ZcJ:=mkA Tryz.func247 [((163,0),Js),((192,0),Q3),((193,0),ZcI)] [(3,iR),(98,Ze)] {lv:= [(4,⟨[0,1,13,14,15],[],[],pV (rCo q2 (rCo q4 q34)),[]⟩),(10,⟨[0,1,7,13,14,15,40,41,42],[],[],pV (rCo q2 (rCo q4 (rCo rI (rCo q4 (rCo rI (rCo rI q34)))))),[]⟩)]} ⟨Kl,Vy,Zeh,tv⟩
def Zyz:Entry:=⟨aV q9,qV rB,fun (x:Int)=>ZiY x⟩
theorem ZKQ:Ok gG 358 Zyz:=mkA Tryz.func358 [] [] {} tv
def ZyA:Entry:=⟨aV q3,qV rB,fun (x:Int×Int)=>ZiZ x.1 x.2⟩
theorem ZKR:Ok gG 334 ZyA:=mkA Tryz.func334 [((358,0),Zyz)] [] {} ⟨ZKQ,tv⟩
def ZyB:Entry:=⟨aV q9,qV rB,fun (x:Int)=>Zi0 x⟩
theorem ZKS:Ok gG 335 ZyB:=mkA Tryz.func335 [] [] {} tv
def ZyC:Entry:=⟨aV q33,qV (rTu (rCo rI q17)),fun (x:(List Int)×Int)=>Zi1 x.1 x.2⟩
theorem ZKT:Ok gG 300 ZyC:=mkA Tryz.func300 [((334,0),ZyA),((335,0),ZyB)] [(3,iR)] {lv:= [(3,⟨[0,1,6,7,8],[],[],pV (rCo q4 (rCo rI q21)),[]⟩)]} ⟨ZKR,ZKS,tv⟩
def ZyD:Entry:=⟨aV q33,qV q8,fun (x:(List Int)×Int)=>Zi2 x.1 x.2⟩
theorem ZKU:Ok gG 248 ZyD:=mkA Tryz.func248 [((300,0),ZyC),((160,0),K0),((301,0),Zwy)] [] {tk:= [(2,5),(2,6)],hb:= [((2,1),2)],rt:= [((2,1),(rX .unq 1 iR))]} ⟨ZKT,Zbj,ZJa,tv⟩
def ZlF:Entry:=⟨aV (rCo q2 q14),qV q8,fun (x:(List Path)×(List Int))=>Zdm x.1 x.2⟩
theorem ZqG:Ok gG 165 ZlF:=mkA Tryz.func165 [((160,0),K0),((247,0),ZcJ),((170,0),Km),((248,0),ZyD)] [(98,Ze)] {tk:= [(1,2),(3,0),(3,1),(8,4),(10,0),(10,1),(12,0),(12,1)],lv:= [(5,⟨[0,5,16,17,18],[],[],pV (rCo q2 (rCo q8 q26)),[]⟩)]} ⟨Zbj,Zei,K2,ZKU,tv⟩
def ZqH:Entry:=⟨aV q30,qV q36,fun (x:List Path)=>Zfm x⟩
theorem ZyE:Ok gG 86 ZqH:=mkA Tryz.func86 [((163,0),Js),((164,0),ZqF),((165,0),ZlF)] [(98,Ze)] {tk:= [(1,1),(3,0),(3,1),(8,0),(8,6),(8,7),(8,8),(10,0),(10,1)],lv:= [(5,⟨[0,3,11,12,13],[],[],pV (rCo q2 (rCo q36 q26)),[]⟩)]} ⟨Kl,Zyt,ZqG,tv⟩
def ZyF:Entry:=⟨aV (rCo q4 (rCo q4 q17)),qV q8,fun (x:(List Int)×(List Int)×Bool)=>ZnQ x.1 x.2.1 x.2.2⟩
theorem ZKV:Ok gG 339 ZyF:=mkA Tryz.func339 [((170,0),Km)] [(3,iR)] {tk:= [(1,1),(6,0),(6,3),(6,4),(8,0),(8,1)],lv:= [(3,⟨[1,2,7,11,12,13],[],[],pV (rCo q4 (rCo rB (rCo q8 q34))),[]⟩)]} ⟨K2,tv⟩
def ZyG:Entry:=⟨aV (rCo q4 q14),qV q8,fun (x:(List Int)×(List Int))=>Zfn x.1 x.2⟩
theorem ZKW:Ok gG 303 ZyG:=mkA Tryz.func303 [((339,0),ZyF)] [] {tk:= [(1,3)]} ⟨ZKV,tv⟩
def ZlG:Entry:=⟨aV q24,qV rI,fun (x:Path)=>Zdn x⟩
theorem ZqI:Ok gG 304 ZlG:=mkA Tryz.func304 [((244,0),ZgI)] [] {} ⟨ZlE,tv⟩
def ZgJ:Entry:=⟨aV (rCo q2 (rCo q4 q14)),qV rI,fun (x:(List Path)×(List Int)×(List Int))=>Zb4 x.1 x.2.1 x.2.2⟩
theorem ZlH:Ok gG 250 ZgJ:=mkA Tryz.func250 [((247,0),ZcJ),((303,0),ZyG),((192,0),Q3),((193,0),ZcI),((304,0),ZlG)] [(3,iR),(98,Ze)] {lv:= [(5,⟨[0,1,2,7,26,27,28],[],[],pV (rCo q2 (rCo q4 (rCo q4 (rCo rI (rCo q8 q3))))),[]⟩),(8,⟨[0,1,2,7,9,26,27,28,34,35,36],[],[],pV (rCo q2 (rCo q4 (rCo q4 (rCo rI (rCo rI (rCo q8 (rCo rI (rCo rI (rCo q8 q3))))))))),[]⟩)]} ⟨Zei,ZKW,Vy,Zeh,ZqI,tv⟩
def Kn:Entry:=⟨aV q27,qV rB,fun (x:(List Path)×Control)=>VO x.1 x.2⟩
theorem K3:Ok gG 169 Kn:=mkA Tryz.func169 [((247,0),ZcJ),((175,0),X7),((250,0),ZgJ)] [] {} ⟨Zei,Qk,ZlH,tv⟩
def ZgK:Entry:=⟨aV q27,qV q8,fun (x:(List Path)×Control)=>Zb5 x.1 x.2⟩
theorem ZlI:Ok gG 88 ZgK:=mkA Tryz.func88 [((169,0),Kn),((170,0),Km)] [(98,Ze)] {tk:= [(1,1),(3,0),(3,1),(12,0),(12,3),(12,4),(14,0),(14,1)],lv:= [(5,⟨[5,15,16,17],[(3,3,false)],[(3,4,false,false)],pVO (rCo q8 q26) (YC (XD .shr .shr)),[]⟩)]} ⟨K3,K2,tv⟩
def ZyH:Entry:=⟨aV (Zg q6),qV rI,fun (x:List Note)=>Zi3 x⟩
theorem ZKX:Ok gG 167 ZyH:=mkA Tryz.func167 [] [(126,(Zb .shr))] {} tv
def ZyI:Entry:=⟨aV q3,qV rI,fun (x:Int×Int)=>Zi4 x.1 x.2⟩
theorem ZKY:Ok gG 338 ZyI:=mkA Tryz.func338 [((175,0),X7)] [] {} ⟨Qk,tv⟩
def ZyJ:Entry:=⟨aV q3,qV rI,fun (x:Int×Int)=>Zi5 x.1 x.2⟩
theorem ZKZ:Ok gG 302 ZyJ:=mkA Tryz.func302 [((338,0),ZyI)] [] {} ⟨ZKY,tv⟩
def ZyK:Entry:=⟨aV q14,qV rI,fun (x:List Int)=>Zi6 x⟩
theorem ZK0:Ok gG 249 ZyK:=mkA Tryz.func249 [((302,0),ZyJ)] [(3,iR)] {lv:= [(3,⟨[3,6,7,8],[],[],pV (rCo rI q34),[]⟩)]} ⟨ZKZ,tv⟩
def ZqJ:Entry:=⟨aV (rCo rI (rCo rI q14)),qV rI,fun (x:Int×Int×(List Int))=>Zdo x.1 x.2.1 x.2.2⟩
theorem ZyL:Ok gG 166 ZqJ:=mkA Tryz.func166 [((249,0),ZyK)] [] {} ⟨ZK0,tv⟩
def Zej:Entry:=⟨aV (Zg q6),qV rB,fun (x:List Note)=>ZaF x⟩
theorem ZgL:Ok gG 168 Zej:=mkA Tryz.func168 [((175,0),X7),((166,0),ZqJ)] [(3,iR),(126,(Zb .shr))] {lv:= [(5,⟨[0,3,11,12,13],[],[],pV (rCo q6 (rCo rI (rCo q6 q3))),[]⟩),(10,⟨[0,11,12,13,66,67,68],[(5,5,false)],[(5,3,false,false)],pVO (rCo q6 (rCo q6 (rCo rI (rCo rI q34)))) (YC (Zb .shr)),[]⟩)]} ⟨Qk,ZyL,tv⟩
def ZqK:Entry:=⟨aV (rCo q6 (rCo rI q14)),qV (rTu (rCo q20 q17)),fun (x:(List Note)×Int×(List Int))=>Zdp x.1 x.2.1 x.2.2⟩
theorem ZyM:Ok gG 87 ZqK:=mkA Tryz.func87 [((84,0),ZlD),((160,0),K0),((167,0),ZyH),((166,0),ZqJ),((168,0),Zej)] [] {tk:= [(1,10),(1,11),(1,12),(1,13),(3,2),(4,0),(4,1)]} ⟨ZqC,Zbj,ZKX,ZyL,ZgL,tv⟩
def ZgM:Entry:=⟨aV (rCo q2 (Zg q10)),qV rB,fun (x:(List Path)×(List Want))=>KD x.1 x.2⟩
theorem ZlJ:Ok gG 171 ZgM:=mkA Tryz.func171 [((163,0),Js),((192,0),Q3),((175,0),X7)] [(119,Zc)] {lv:= [(4,⟨[0,1,10,11,12],[],[],pV (rCo q2 (rCo q10 (rCo q10 q3))),[]⟩)]} ⟨Kl,Vy,Qk,tv⟩
def ZqL:Entry:=⟨aV (rCo q2 q9),qV rB,fun (x:(List Path)×Int)=>Zdq x.1 x.2⟩
theorem ZyN:Ok gG 252 ZqL:=mkA Tryz.func252 [((192,0),Q3)] [(98,Ze)] {} ⟨Vy,tv⟩
def ZgN:Entry:=⟨aV (rCo q2 q23),qV rB,fun (x:(List Path)×Prio)=>Zb6 x.1 x.2⟩
theorem ZlK:Ok gG 172 ZgN:=mkA Tryz.func172 [((163,0),Js),((252,0),ZqL),((175,0),X7)] [] {} ⟨Kl,ZyN,Qk,tv⟩
def ZqM:Entry:=⟨aV (rCo q2 (Zg q12)),qV rB,fun (x:(List Path)×(List Lamp))=>Zfo x.1 x.2⟩
theorem ZyO:Ok gG 173 ZqM:=mkA Tryz.func173 [((163,0),Js),((192,0),Q3)] [(123,Zl)] {lv:= [(4,⟨[0,1,12,13,14],[],[],pV (rCo q2 (rCo q12 (rCo q12 q3))),[]⟩),(9,⟨[0,1,12,13,14,36,37,38],[(6,6,false)],[(6,3,false,false)],pVO (rCo q2 (rCo q12 (rCo q12 (rCo rI (rCo rI (rCo q12 q3)))))) (YC Zl),[]⟩)]} ⟨Kl,Vy,tv⟩
def ZqN:Entry:=⟨aV (rCo q2 q14),qV rB,fun (x:(List Path)×(List Int))=>Zfp x.1 x.2⟩
theorem ZyP:Ok gG 253 ZqN:=mkA Tryz.func253 [((163,0),Js),((175,0),X7),((193,0),ZcI)] [(3,iR),(98,Ze)] {lv:= [(4,⟨[0,1,19,20,21],[],[],pV (rCo q2 (rCo q4 q26)),[]⟩),(9,⟨[0,1,5,19,20,21,34,35,36],[(6,6,false)],[(6,4,false,false)],pVO (rCo q2 (rCo q4 (rCo rI (rCo q2 (rCo rI (rCo rI q26)))))) (YC Ze),[]⟩)]} ⟨Kl,Qk,Zeh,tv⟩
def ZyQ:Entry:=⟨aV (rCo q2 (Zg q6)),qV rI,fun (x:(List Path)×(List Note))=>Zi7 x.1 x.2⟩
theorem ZK1:Ok gG 174 ZyQ:=mkA Tryz.func174 [((168,0),Zej),((253,0),ZqN)] [(126,(Zb .shr))] {lv:= [(4,⟨[0,10,11,12],[],[],pV (rCo q2 (rCo q6 q3)),[]⟩)]} ⟨ZgL,ZyP,tv⟩
def K4:Entry:=⟨aV q28,qV rB,fun (x:Town)=>VP x⟩
theorem Zbl:Ok gG 89 K4:=mkA Tryz.func89 [((169,0),Kn),((171,0),ZgM),((172,0),ZgN),((173,0),ZqM),((168,0),Zej),((174,0),ZyQ),((175,0),X7)] [(126,(Zb .shr))] {} ⟨K3,ZlJ,ZlK,ZyO,ZgL,ZK1,Qk,tv⟩
def ZyR:Entry:=⟨aV q30,qV q13,fun (x:List Path)=>Zi8 x⟩
theorem ZK2:Ok gG 33 ZyR:=mkA Tryz.func33 [((86,0),ZqH),((80,0),ZqA),((88,0),ZgK),((87,0),ZqK),((89,0),K4)] [(23,(Zg q8))] {tk:= [(1,2),(3,1),(4,2),(4,3),(4,5),(4,6),(4,8),(5,5),(5,6),(5,9),(7,1),(8,1)],mo:= [(4,4),(8,0)],ao:= [4],jr:= [(4,⟨[0],[(2,2,false),(5,5,false)],[(2,13,false,false),(5,13,false,false)],pVO q30 (XR (YD .own .own .own .own .own .own .own) (YC (YD .own .own .own .own .own .own .own))),[]⟩)]} ⟨ZyE,Zyj,ZlI,ZyM,Zbl,tv⟩
def ZyS:Entry:=⟨aV (rCo q1 (rCo q5 q17)),qV (rTu (rCo q5 q32)),fun (x:Town×Town×Bool)=>ZaG x.1 x.2.1 x.2.2⟩
theorem ZK3:Ok gG 34 ZyS:=mkA Tryz.func34 [((31,0),Jr)] [] {tk:= [(0,1),(2,2),(3,1)],mo:= [(3,0)]} ⟨Kk,tv⟩
def ZyT:Entry:=⟨aV q32,qV rI,fun (x:ByteArray)=>Zi9 x⟩
theorem ZK4:Ok gG 36 ZyT:=mkA Tryz.func36 [] [] {} tv
def ZyU:Entry:=⟨aV (rCo q25 q9),qV (rTu (rCo q4 q17)),fun (x:(List ByteArray)×Int)=>Zja x.1 x.2⟩
theorem ZK5:Ok gG 35 ZyU:=mkA Tryz.func35 [((90,0),ZqD)] [(9,sR)] {tk:= [(1,1),(8,0),(8,3),(8,4),(10,1)],lv:= [(3,⟨[1,6,12,13,14],[],[],pV (rCo rI (rCo q8 (rCo q25 q3))),[]⟩)]} ⟨Zyl,tv⟩
def ZyV:Entry:=⟨aV (rCo (rAg Zc) q31),qV rB,fun (x:Want×Int)=>ZnR x.1 x.2⟩
theorem ZK6:Ok gG 255 ZyV:=mkA Tryz.func255 [] [] {} tv
def ZyW:Entry:=⟨aV (rCo q10 (Zg (rFn 255 q31))),qV rI,fun (x:(List Want)×Int)=>ZnS x.1 x.2⟩
theorem ZK7:Ok gG 305 ZyW:=mkA Tryz.func305 [((255,0),ZyV)] [(119,Zc)] {lv:= [(2,⟨[0,1,7,8],[],[],pV (rCo q10 (rCo (rFn 255 q31) q3)),[]⟩)]} ⟨ZK6,tv⟩
def ZyX:Entry:=⟨aV (rCo q10 (Zg (rFn 255 q31))),qV rB,fun (x:(List Want)×Int)=>Zjb x.1 x.2⟩
theorem ZK8:Ok gG 254 ZyX:=mkA Tryz.func254 [((305,0),ZyW)] [] {} ⟨ZK7,tv⟩
def ZyY:Entry:=⟨aV (rCo q2 (rCo q10 q9)),qV (rTu (rCo q18 q17)),fun (x:(List Path)×(List Want)×Int)=>Zjc x.1 x.2.1 x.2.2⟩
theorem ZK9:Ok gG 176 ZyY:=mkA Tryz.func176 [((81,0),ZlC),((254,0),ZyX),((256,0),Zwz),((171,0),ZgM)] [(119,Zc)] {tk:= [(1,2),(3,0),(3,1),(7,0),(7,5),(7,6),(9,2),(10,0),(10,1)],hb:= [((1,1),2),((3,1),4)],rt:= [((1,1),(rX .unq 2 Zc))],lv:= [(5,⟨[0,1,8,9],[(5,5,false)],[(5,1,false,true)],pVO (rCo q2 (rCo q10 (rCo (rX .unq 2 Zc) q9))) (YC iR),[]⟩)]} ⟨ZqB,ZK8,ZJb,ZlJ,tv⟩
def ZcK:Entry:=⟨aV (rCo q1 (rCo q5 q17)),qV q13,fun (x:Town×Town×Bool)=>QS x.1 x.2.1 x.2.2⟩
theorem Zek:Ok gG 177 ZcK:=mkA Tryz.func177 [((89,0),K4),((31,0),Jr)] [] {tk:= [(0,1),(2,2),(3,1)],mo:= [(3,0)]} ⟨Zbl,Kk,tv⟩
def ZyZ:Entry:=⟨aV (rCo q1 q9),qV q13,fun (x:Town×Int)=>Zjd x.1 x.2⟩
theorem ZLa:Ok gG 91 ZyZ:=mkA Tryz.func91 [((31,0),Jr),((176,0),ZyY),((177,0),ZcK)] [] {tk:= [(1,3),(2,6),(2,7),(2,10),(3,3),(3,4),(3,6)],mo:= [(3,1)]} ⟨Kk,ZK9,Zek,tv⟩
def Zy0:Entry:=⟨aV (rCo q2 (rCo (rAg V4) q9)),qV (rTu (rCo (rAg V4) q17)),fun (x:(List Path)×Prio×Int)=>Zje x.1 x.2.1 x.2.2⟩
theorem ZLb:Ok gG 178 Zy0:=mkA Tryz.func178 [((172,0),ZgN),((252,0),ZqL)] [] {} ⟨ZlK,ZyN,tv⟩
def Zy1:Entry:=⟨aV (rCo q1 q9),qV q13,fun (x:Town×Int)=>Zjf x.1 x.2⟩
theorem ZLc:Ok gG 92 Zy1:=mkA Tryz.func92 [((31,0),Jr),((178,0),Zy0),((177,0),ZcK)] [] {tk:= [(1,3),(3,3),(3,4),(3,6)],mo:= [(3,1)]} ⟨Kk,ZLb,Zek,tv⟩
def ZlL:Entry:=⟨aV (rCo q2 q9),qV rB,fun (x:(List Path)×Int)=>Zdr x.1 x.2⟩
theorem ZqO:Ok gG 179 ZlL:=mkA Tryz.func179 [((192,0),Q3)] [(98,Ze)] {} ⟨Vy,tv⟩
def Zy2:Entry:=⟨aV (Zg (rAg Zl)),qV rB,fun (x:Lamp)=>ZnT x⟩
theorem ZLd:Ok gG 309 Zy2:=mkA Tryz.func309 [] [] {} tv
def Zy3:Entry:=⟨aV (rCo q12 (Zg (rFn 309 Zep))),qV rI,fun (x:(List Lamp)×Unit)=>ZnU x.1⟩
theorem ZLe:Ok gG 341 Zy3:=mkA Tryz.func341 [((309,0),Zy2)] [(123,Zl)] {lv:= [(2,⟨[0,1,7,8],[],[],pV (rCo q12 (rCo (rFn 309 Zep) q3)),[]⟩)]} ⟨ZLd,tv⟩
def Zy4:Entry:=⟨aV (rCo q12 (Zg (rFn 309 Zep))),qV rB,fun (x:(List Lamp)×Unit)=>Zjg x.1⟩
theorem ZLf:Ok gG 308 Zy4:=mkA Tryz.func308 [((341,0),Zy3)] [] {} ⟨ZLe,tv⟩
def Zy5:Entry:=⟨aV (rCo q2 (rCo q12 q17)),qV rI,fun (x:(List Path)×(List Lamp)×Bool)=>Zjh x.1 x.2.1 x.2.2⟩
theorem ZLg:Ok gG 257 Zy5:=mkA Tryz.func257 [((173,0),ZqM),((308,0),Zy4)] [] {} ⟨ZyO,ZLf,tv⟩
def Zel:Entry:=⟨aV q28,qV rI,fun (x:Town)=>QT x⟩
theorem ZgO:Ok gG 180 Zel:=mkA Tryz.func180 [((257,0),Zy5)] [] {} ⟨ZLg,tv⟩
def ZgP:Entry:=⟨aV (rCo q2 q14),qV rI,fun (x:(List Path)×(List Int))=>Zb7 x.1 x.2⟩
theorem ZlM:Ok gG 189 ZgP:=mkA Tryz.func189 [((192,0),Q3)] [(3,iR),(98,Ze)] {lv:= [(2,⟨[0,8,9,10],[],[],pV (rCo q2 q34),[]⟩)]} ⟨Vy,tv⟩
def Zy6:Entry:=⟨aV q27,qV rB,fun (x:(List Path)×Control)=>Zji x.1 x.2⟩
theorem ZLh:Ok gG 310 Zy6:=mkA Tryz.func310 [((169,0),Kn),((189,0),ZgP)] [] {} ⟨K3,ZlM,tv⟩
def Zy7:Entry:=⟨aV q38,qV (rTu (rCo q15 q17)),fun (x:(List Path)×Control×Int)=>Zjj x.1 x.2.1 x.2.2⟩
theorem ZLi:Ok gG 258 Zy7:=mkA Tryz.func258 [((83,0),Zeg),((310,0),Zy6),((179,0),ZlL),((170,0),Km),((250,0),ZgJ)] [] {tk:= [(1,3),(3,1),(4,2),(7,0),(7,3),(8,1),(9,0),(9,1),(9,2)],mo:= [(3,0),(8,0)]} ⟨ZgH,ZLh,ZqO,K2,ZlH,tv⟩
def ZlN:Entry:=⟨aV q27,qV q15,fun (x:(List Path)×Control)=>Zds x.1 x.2⟩
theorem ZqP:Ok gG 259 ZlN:=mkA Tryz.func259 [((83,0),Zeg),((169,0),Kn),((160,0),K0)] [] {tk:= [(1,3),(2,3),(2,4),(8,1)],mo:= [(8,0)]} ⟨ZgH,K3,Zbj,tv⟩
def ZqQ:Entry:=⟨aV q38,qV q15,fun (x:(List Path)×Control×Int)=>Zfq x.1 x.2.1 x.2.2⟩
theorem Zy8:Ok gG 181 ZqQ:=mkA Tryz.func181 [((258,0),Zy7),((259,0),ZlN)] [] {tk:= [(1,4),(1,5),(1,8),(3,1),(4,3)],mo:= [(3,0)]} ⟨ZLi,ZqP,tv⟩
def ZqR:Entry:=⟨aV q19,qV q18,fun (x:(List Path)×Control×(List Want))=>Zb8 x.1 x.2.1 x.2.2⟩
theorem Zy9:Ok gG 182 ZqR:=mkA Tryz.func182 [((88,0),ZgK),((192,0),Q3)] [(3,iR),(119,Zc)] {tk:= [(1,1),(2,3),(9,0),(9,3),(9,4),(11,0),(11,1)],lv:= [(4,⟨[0,7,8,16,17,18],[],[],pV (rCo q2 (rCo q18 (rCo q8 (rCo q10 q3)))),[]⟩)]} ⟨ZlI,Vy,tv⟩
def ZqS:Entry:=⟨aV q23,qV (rAg V4),fun (x:Prio)=>Zb9 x⟩
theorem Zza:Ok gG 183 ZqS:=mkA Tryz.func183 [] [] {} tv
def ZqT:Entry:=⟨aV (rCo q2 q9),qV q8,fun (x:(List Path)×Int)=>Zfr x.1 x.2⟩
theorem Zzb:Ok gG 187 ZqT:=mkA Tryz.func187 [] [] {tk:= [(1,1),(4,0),(4,3),(4,4),(6,0),(6,1)],lv:= [(3,⟨[1,5,8,9],[],[],pV (rCo rI (rCo q8 q3)),[]⟩)]} tv
def Zem:Entry:=⟨aV q28,qV q8,fun (x:Town)=>ZaH x⟩
theorem ZgQ:Ok gG 98 Zem:=mkA Tryz.func98 [((180,0),Zel),((187,0),ZqT),((88,0),ZgK)] [] {tk:= [(2,3),(3,5)]} ⟨ZgO,Zzb,ZlI,tv⟩
def ZlO:Entry:=⟨aV (rCo q4 q14),qV rB,fun (x:(List Int)×(List Int))=>Zdt x.1 x.2⟩
theorem ZqU:Ok gG 276 ZlO:=mkA Tryz.func276 [] [(3,iR)] {lv:= [(4,⟨[0,1,12,13],[],[],pV (rCo q4 q34),[]⟩)]} tv
def Zzc:Entry:=⟨aV (rCo q6 (rCo rI q14)),qV (rTu (rCo q20 q17)),fun (x:(List Note)×Int×(List Int))=>QA x.1 x.2.1 x.2.2⟩
theorem ZLj:Ok gG 260 Zzc:=mkA Tryz.func260 [((276,0),ZlO),((87,0),ZqK),((84,0),ZlD),((168,0),Zej),((175,0),X7)] [(126,(Zb .shr))] {tk:= [(2,4),(2,6),(3,19)]} ⟨ZqU,ZyM,ZqC,ZgL,Qk,tv⟩
def ZgR:Entry:=⟨aV (Zg q5),qV q5,fun (x:Town)=>Vj x⟩
theorem ZlP:Ok gG 184 ZgR:=mkA Tryz.func184 [((98,0),Zem),((260,0),Zzc)] [(126,(Zb .shr))] {tk:= [(0,0),(1,2),(7,6),(7,7),(7,9),(9,0),(9,2),(10,1),(13,4),(13,6),(13,7),(13,10),(14,1)],mo:= [(10,0),(14,0)]} ⟨ZgQ,ZLj,tv⟩
def Zzd:Entry:=⟨aV (rCo q1 q9),qV q13,fun (x:Town×Int)=>Zjk x.1 x.2⟩
theorem ZLk:Ok gG 93 Zzd:=mkA Tryz.func93 [((89,0),K4),((179,0),ZlL),((31,0),Jr),((180,0),Zel),((181,0),ZqQ),((182,0),ZqR),((183,0),ZqS),((184,0),ZgR),((177,0),ZcK)] [] {tk:= [(2,2),(3,3),(6,7),(7,8),(9,2),(9,3),(9,4),(9,6)],mo:= [(9,1)],ao:= [9]} ⟨Zbl,ZqO,Kk,ZgO,Zy8,Zy9,Zza,ZlP,Zek,tv⟩
def Zze:Entry:=⟨aV (rCo q1 (rCo rI (rCo rI q17))),qV q13,fun (x:Town×Int×Int×Bool)=>Zfs x.1 x.2.1 x.2.2.1 x.2.2.2⟩
theorem ZLl:Ok gG 94 Zze:=mkA Tryz.func94 [((89,0),K4),((31,0),Jr),((184,0),ZgR),((177,0),ZcK)] [(123,Zl)] {tk:= [(2,2),(3,3),(13,7),(13,9),(14,2),(14,3),(14,4),(14,6)],hb:= [((3,1),2),((5,1),1),((5,2),7),((7,1),8),((7,2),10),((9,1),1),((9,4),8),((9,5),9),((9,6),11),((13,1),12),((14,1),12)],ao:= [14],rt:= [((3,1),q16)],lv:= [(6,⟨[1,2,3,11,23,24],[(4,4,false),(8,8,false),(10,10,false)],[(4,13,false,false),(8,13,false,false),(10,13,false,false)],pVO (rCo rI (rCo rI (rCo rB (rCo rB q3)))) (XR (YD .shr .shr .shr .shr .shr .shr .shr) (XR (YD .own .own .own .own .own .own .own) (YC (YD .unq .unq .unq .unq .unq .unq .unq)))),[(22,10,0,8)]⟩)]} ⟨Zbl,Kk,ZlP,Zek,tv⟩
def Zzf:Entry:=⟨aV (rCo q1 q17),qV q13,fun (x:Town×Bool)=>Zjl x.1 x.2⟩
theorem ZLm:Ok gG 95 Zzf:=mkA Tryz.func95 [((89,0),K4),((31,0),Jr),((184,0),ZgR),((177,0),ZcK)] [] {tk:= [(2,2),(3,3),(5,2),(5,3),(5,4),(5,6)],mo:= [(5,1)],ao:= [5]} ⟨Zbl,Kk,ZlP,Zek,tv⟩
def ZlQ:Entry:=⟨aV q27,qV rB,fun (x:(List Path)×Control)=>Zca x.1 x.2⟩
theorem ZqV:Ok gG 342 ZlQ:=mkA Tryz.func342 [((169,0),Kn),((189,0),ZgP)] [] {} ⟨K3,ZlM,tv⟩
def Zzg:Entry:=⟨aV (rCo q2 (rCo q7 q23)),qV rS,fun (x:(List Path)×Control×Prio)=>Zjm x.1 x.2.1 x.2.2⟩
theorem ZLn:Ok gG 311 Zzg:=mkA Tryz.func311 [((169,0),Kn),((172,0),ZgN),((170,0),Km),((342,0),ZlQ)] [] {} ⟨K3,ZlK,K2,ZqV,tv⟩
def ZqW:Entry:=⟨aV (rCo q2 (rCo q7 q14)),qV (rTu (rCo q15 q17)),fun (x:(List Path)×Control×(List Int))=>Zft x.1 x.2.1 x.2.2⟩
theorem Zzh:Ok gG 312 ZqW:=mkA Tryz.func312 [((83,0),Zeg),((342,0),ZlQ),((247,0),ZcJ),((276,0),ZlO),((250,0),ZgJ),((160,0),K0)] [] {tk:= [(1,3),(3,1),(6,4),(7,1),(8,2),(8,3)],mo:= [(3,0),(7,0)]} ⟨ZgH,ZqV,Zei,ZqU,ZlH,Zbj,tv⟩
def Zzi:Entry:=⟨aV (rCo q10 q14),qV rI,fun (x:(List Want)×(List Int))=>Zjn x.1 x.2⟩
theorem ZLo:Ok gG 369 Zzi:=mkA Tryz.func369 [((170,0),Km)] [(119,Zc)] {lv:= [(4,⟨[1,6,10,11,12],[(5,5,false)],[(5,2,false,false)],pVO (rCo q4 (rCo rB (rCo q10 q3))) (YC Zc),[]⟩)]} ⟨K2,tv⟩
def ZqX:Entry:=⟨aV q19,qV q8,fun (x:(List Path)×Control×(List Want))=>Zfu x.1 x.2.1 x.2.2⟩
theorem Zzj:Ok gG 344 ZqX:=mkA Tryz.func344 [((369,0),Zzi),((169,0),Kn),((171,0),ZgM),((165,0),ZlF)] [] {tk:= [(3,1),(4,4)]} ⟨ZLo,K3,ZlJ,ZqG,tv⟩
def Zzk:Entry:=⟨aV (rCo (rAg Zc) (Zg (rRp (XD .shr .shr)))),qV rB,fun (x:Want×Control)=>Zjo x.1 x.2⟩
theorem ZLp:Ok gG 368 Zzk:=mkA Tryz.func368 [((170,0),Km)] [] {} ⟨K2,tv⟩
def Zzl:Entry:=⟨aV (rCo q10 (Zg (rFn 368 (Zg (rRp (XD .shr .shr)))))),qV rI,fun (x:(List Want)×Control)=>ZnV x.1 x.2⟩
theorem ZLq:Ok gG 305 Zzl:=mkA Tryz.func305 [((368,0),Zzk)] [(119,Zc)] {lv:= [(2,⟨[0,1,7,8],[],[],pV (rCo q10 (rCo (rFn 368 (Zg (rRp (XD .shr .shr)))) q3)),[]⟩)]} ⟨ZLp,tv⟩
def Zzm:Entry:=⟨aV (rCo q10 (Zg (rFn 368 (Zg (rRp (XD .shr .shr)))))),qV rB,fun (x:(List Want)×Control)=>Zjp x.1 x.2⟩
theorem ZLr:Ok gG 254 Zzm:=mkA Tryz.func254 [((305,1),Zzl)] [] {vr:= [((1,2),1)]} ⟨ZLq,tv⟩
def Zzn:Entry:=⟨aV q19,qV rB,fun (x:(List Path)×Control×(List Want))=>Zjq x.1 x.2.1 x.2.2⟩
theorem ZLs:Ok gG 343 Zzn:=mkA Tryz.func343 [((342,0),ZlQ),((344,0),ZqX),((254,1),Zzm)] [] {vr:= [((3,6),1)]} ⟨ZqV,Zzj,ZLr,tv⟩
def Zzo:Entry:=⟨aV q19,qV q15,fun (x:(List Path)×Control×(List Want))=>Zjr x.1 x.2.1 x.2.2⟩
theorem ZLt:Ok gG 313 Zzo:=mkA Tryz.func313 [((343,0),Zzn),((344,0),ZqX),((312,0),ZqW),((259,0),ZlN)] [] {tk:= [(2,7),(2,8),(2,11),(3,1),(4,3)],mo:= [(3,0)]} ⟨ZLs,Zzj,Zzh,ZqP,tv⟩
def Zzp:Entry:=⟨aV (rCo q2 (rCo q7 (rCo q10 q23))),qV (rTu (rCo q15 (rCo q18 q23))),fun (x:(List Path)×Control×(List Want)×Prio)=>Zjs x.1 x.2.1 x.2.2.1 x.2.2.2⟩
theorem ZLu:Ok gG 261 Zzp:=mkA Tryz.func261 [((169,0),Kn),((171,0),ZgM),((172,0),ZgN),((83,0),Zeg),((81,0),ZlC),((311,0),Zzg),((259,0),ZlN),((165,0),ZlF),((312,0),ZqW),((313,0),Zzo),((182,0),ZqR),((183,0),ZqS)] [] {tk:= [(2,5),(2,6),(3,2),(5,4),(7,3),(9,8),(9,9),(9,11),(10,8)],hb:= [((10,0),1),((10,7),6)]} ⟨K3,ZlJ,ZlK,ZgH,ZqB,ZLn,ZqP,ZqG,Zzh,ZLt,Zy9,Zza,tv⟩
def Zzq:Entry:=⟨aV q28,qV q13,fun (x:Town)=>Zfv x⟩
theorem ZLv:Ok gG 185 Zzq:=mkA Tryz.func185 [((89,0),K4),((31,0),Jr),((180,0),Zel),((261,0),Zzp),((184,0),ZgR),((177,0),ZcK)] [] {tk:= [(2,2),(3,3),(6,9),(6,10),(6,11),(6,14),(6,16),(7,2),(7,3),(7,4),(7,6)],mo:= [(7,1)],ao:= [7]} ⟨Zbl,Kk,ZgO,ZLu,ZlP,Zek,tv⟩
def Zzr:Entry:=⟨aV (rCo q1 q9),qV q13,fun (x:Town×Int)=>Zjt x.1 x.2⟩
theorem ZLw:Ok gG 96 Zzr:=mkA Tryz.func96 [((175,0),X7),((31,0),Jr),((185,0),Zzq)] [] {tk:= [(2,2),(6,2),(6,3),(6,5),(8,2),(10,1)],mo:= [(10,0)],pl:= [5],lv:= [(5,⟨[14,15],[(2,2,false),(4,4,false),(6,6,false)],[(2,13,false,false),(4,13,false,false),(6,13,false,false)],pVO q3 (XR (YD .shr .shr .shr .shr .shr .shr .shr) (XR (YD .own .own .own .own .own .own .own) (YC (YD .own .own .own .own .own .own .own)))),[]⟩)]} ⟨Qk,Kk,ZLv,tv⟩
def Zzs:Entry:=⟨aV (rCo q1 (rCo rS q14)),qV (rSp q5 q1 (fun x=>x) (fun x=>x) (fun _=>rfl)),fun (x:Town×ByteArray×(List Int))=>XG x.1 x.2.1 x.2.2⟩
theorem ZLx:Ok gG 37 Zzs:=mkA Tryz.func37 [((91,0),ZyZ),((92,0),Zy1),((93,0),Zzd),((94,0),Zze),((95,0),Zzf),((96,0),Zzr)] [(3,iR)] {tk:= [(5,5),(5,6),(5,8),(7,5),(7,6),(7,8),(9,5),(9,6),(9,8),(12,10),(12,11),(12,13),(14,6),(14,7),(14,9),(16,5),(16,6),(16,8),(17,2)],mo:= [(17,0)]} ⟨ZLa,ZLc,ZLk,ZLl,ZLm,ZLw,tv⟩
def ZgS:Entry:=⟨aV (rCo q25 q32),qV rS,fun (x:(List ByteArray)×ByteArray)=>V7 x.1 x.2⟩
theorem ZlR:Ok gG 186 ZgS:=mkA Tryz.func186 [((262,0),ZwA)] [] {} ⟨ZJc,tv⟩
def ZqY:Entry:=⟨aV q14,qV rS,fun (x:List Int)=>Zcb x⟩
theorem Zzt:Ok gG 97 ZqY:=mkA Tryz.func97 [((186,0),ZgS)] [(3,iR)] {tk:= [(1,1),(13,0),(13,3),(13,4),(15,0)],lv:= [(3,⟨[3,8,9,10],[],[],pV (rCo q35 q34),[]⟩)]} ⟨ZlR,tv⟩
def Zzu:Entry:=⟨aV (rCo q12 (Zg (rAg Zl))),qV rI,fun (x:(List Lamp)×Lamp)=>ZnW x.1 x.2⟩
theorem ZLy:Ok gG 347 Zzu:=mkA Tryz.func347 [] [(123,Zl)] {lv:= [(2,⟨[0,7,8],[(3,3,false)],[(3,3,false,false)],pVO (rCo q12 q3) (YC Zl),[]⟩)]} tv
def Zzv:Entry:=⟨aV (rCo q12 (Zg (rAg Zl))),qV rB,fun (x:(List Lamp)×Lamp)=>ZnX x.1 x.2⟩
theorem ZLz:Ok gG 317 Zzv:=mkA Tryz.func317 [((347,0),Zzu)] [] {} ⟨ZLy,tv⟩
def Zzw:Entry:=⟨aV (rCo q12 q3),qV rB,fun (x:(List Lamp)×Int×Int)=>Zfw x.1 x.2.1 x.2.2⟩
theorem ZLA:Ok gG 263 Zzw:=mkA Tryz.func263 [((317,0),Zzv)] [] {} ⟨ZLz,tv⟩
def Zzx:Entry:=⟨aV (rCo q2 (rCo q12 q14)),qV q8,fun (x:(List Path)×(List Lamp)×(List Int))=>Zju x.1 x.2.1 x.2.2⟩
theorem ZLB:Ok gG 188 Zzx:=mkA Tryz.func188 [((263,0),Zzw)] [(3,iR),(98,Ze)] {tk:= [(1,1),(3,0),(3,1),(10,0),(10,3),(10,4),(12,0),(12,1)],lv:= [(5,⟨[1,2,7,18,19,20],[],[],pV (rCo q12 (rCo q4 (rCo q8 q26))),[]⟩)]} ⟨ZLA,tv⟩
def Zzy:Entry:=⟨aV q28,qV q8,fun (x:Town)=>Zjv x⟩
theorem ZLC:Ok gG 99 Zzy:=mkA Tryz.func99 [((180,0),Zel),((187,0),ZqT),((98,0),Zem),((188,0),Zzx)] [] {tk:= [(2,3),(3,7)]} ⟨ZgO,Zzb,ZgQ,ZLB,tv⟩
def ZgT:Entry:=⟨aV q14,qV rS,fun (x:List Int)=>JU x⟩
theorem ZlS:Ok gG 104 ZgT:=mkA Tryz.func104 [((107,0),Zbk),((186,0),ZgS)] [(3,iR)] {tk:= [(1,1),(5,0),(5,4),(5,5),(7,0)],lv:= [(3,⟨[3,7,8,9],[],[],pV (rCo q35 q34),[]⟩)]} ⟨ZcH,ZlR,tv⟩
def Zzz:Entry:=⟨aV (Zg q7),qV rS,fun (x:Control)=>Zjw x⟩
theorem ZLD:Ok gG 100 Zzz:=mkA Tryz.func100 [((104,0),ZgT),((107,0),Zbk)] [] {} ⟨ZlS,ZcH,tv⟩
def ZzA:Entry:=⟨aV q30,qV rS,fun (x:List Path)=>Zjx x⟩
theorem ZLE:Ok gG 101 ZzA:=mkA Tryz.func101 [((162,0),ZqE),((186,0),ZgS)] [(98,Ze)] {tk:= [(1,1),(5,0),(5,4),(5,5),(7,0)],lv:= [(3,⟨[3,7,8,9],[],[],pV (rCo q35 q26),[]⟩)]} ⟨Zym,ZlR,tv⟩
def ZzB:Entry:=⟨aV (rCo q2 (Zg q22)),qV rB,fun (x:((List Path)×(List (List Int))))=>Zjy x.1 x.2⟩
theorem ZLF:Ok gG 264 ZzB:=mkA Tryz.func264 [((163,0),Js),((247,0),ZcJ),((164,0),ZqF)] [(23,q14),(98,Ze)] {lv:= [(4,⟨[0,1,12,13,14],[],[],pV (rCo q2 (rCo q22 (rCo q22 q3))),[]⟩),(10,⟨[1,23,24,25],[],[],pV (rCo q22 q26),[]⟩)]} ⟨Kl,Zei,Zyt,tv⟩
def ZqZ:Entry:=⟨aV (rCo q2 (Zg q11)),qV rB,fun (x:(List Path)×(List Part))=>Zfx x.1 x.2⟩
theorem ZzC:Ok gG 190 ZqZ:=mkA Tryz.func190 [((175,0),X7),((247,0),ZcJ),((189,0),ZgP),((264,0),ZzB)] [(189,(ZI .shr))] {tk:= [(3,1),(9,0),(9,4),(9,5),(11,1)],lv:= [(5,⟨[0,5,13,14,15],[],[],pV (rCo q2 (rCo (rX .own 1 q14) (rCo q11 q3))),[]⟩)]} ⟨Qk,Zei,ZlM,ZLF,tv⟩
def ZzD:Entry:=⟨aV q30,qV (rX .own 2 (ZI .shr)),fun (x:List Path)=>Zfy x⟩
theorem ZLG:Ok gG 103 ZzD:=mkA Tryz.func103 [((86,0),ZqH),((189,0),ZgP),((190,0),ZqZ)] [(23,q14)] {tk:= [(1,1),(5,0),(5,7),(5,8),(8,1),(9,0),(9,1)],lv:= [(3,⟨[0,3,8,9,10],[],[],pV (rCo q2 (rCo (rX .own 2 (ZI .shr)) (rCo q36 q3))),[]⟩)]} ⟨ZyE,ZlM,ZzC,tv⟩
def ZzE:Entry:=⟨aV (Zg q11),qV rS,fun (x:List Part)=>Zfz x⟩
theorem ZLH:Ok gG 102 ZzE:=mkA Tryz.func102 [((104,0),ZgT),((107,0),Zbk),((186,0),ZgS)] [(189,(ZI .shr))] {tk:= [(1,1),(5,0),(5,10),(5,11),(7,0)],lv:= [(3,⟨[3,7,8,9],[],[],pV (rCo q35 (rCo q11 q3)),[]⟩)]} ⟨ZlS,ZcH,ZlR,tv⟩
def ZzF:Entry:=⟨aV q30,qV q22,fun (x:List Path)=>Zjz x⟩
theorem ZLI:Ok gG 191 ZzF:=mk Tryz.func191 (by kernel_rfl) [((163,0),Js),((193,0),ZcI)] [((265,0),Zwu)] n0 [(98,Ze)] {tk:= [(1,1),(3,0),(3,1),(18,2),(26,0),(26,4),(26,5),(29,0),(29,1),(29,2),(29,4)],hb:= [((1,0),17),((3,1),4),((29,3),18),((30,0),20),((30,1),21),((31,0),22)],vr:= [((29,3),1)],ro:= [(22,iR)],lv:= [(6,⟨[0,3,23,24,25],[(4,22,true)],[(22,1,true,false)],pVO (rCo q2 (rCo (rX .unq 1 (Zg q8)) q26)) (Qm iR),[]⟩),(9,⟨[0,3,5,23,24,25,30,31,32],[(4,22,true),(6,6,false)],[(6,4,false,false),(22,1,true,false)],pVO (rCo q2 (rCo (rX .unq 1 (Zg q8)) (rCo rI (rCo q2 (rCo rI (rCo rI q26)))))) (XR Ze (Qm iR)),[]⟩),(16,⟨[0,3,9],[(4,22,true)],[(22,1,true,false)],pVO (rCo q2 (rCo (rX .unq 1 (Zg q8)) q9)) (Qm iR),[]⟩),(20,⟨[0,3,9,10,11,58,59,60],[(4,22,true)],[(22,1,true,false)],pVO (rCo q2 (rCo (rX .unq 1 (Zg q8)) (rCo rI (rCo rB (rCo q8 q26))))) (Qm iR),[]⟩)]} ⟨Kl,Zeh,tv⟩ ⟨ZI6,tv⟩ (fun x=>by kernel_rfl)
def ZzG:Entry:=⟨aV q30,qV q8,fun (x:List Path)=>ZjA x⟩
theorem ZLJ:Ok gG 105 ZzG:=mkA Tryz.func105 [((191,0),ZzF)] [(23,q14)] {tk:= [(1,1),(5,0),(5,4),(5,5),(7,0),(7,1)],lv:= [(3,⟨[3,8,9,10],[],[],pV (rCo q8 (rCo q22 q3)),[]⟩)]} ⟨ZLI,tv⟩
def ZzH:Entry:=⟨aV (rCo q2 q9),qV q8,fun (x:(List Path)×Int)=>ZjB x.1 x.2⟩
theorem ZLK:Ok gG 106 ZzH:=mkA Tryz.func106 [((192,0),Q3),((163,0),Js),((193,0),ZcI)] [(98,Ze)] {tk:= [(1,1),(4,0),(4,1),(9,0),(9,4),(9,5),(11,0),(11,1)],lv:= [(6,⟨[0,5,6,21,22,23],[],[],pV (rCo q2 (rCo q8 (rCo rI q26))),[]⟩)]} ⟨Vy,Kl,Zeh,tv⟩
def Zq0:Entry:=⟨aV (rCo q11 q9),qV q4,fun (x:(List Part)×Int)=>ZfA x.1 x.2⟩
theorem ZzI:Ok gG 363 Zq0:=mkA Tryz.func363 [] [(189,(ZI .shr))] {} tv
def Zq1:Entry:=⟨aV q29,qV rI,fun (x:(List Path)×(List Part)×Int)=>Zdu x.1 x.2.1 x.2.2⟩
theorem ZzJ:Ok gG 322 Zq1:=mkA Tryz.func322 [((363,0),Zq0),((250,0),ZgJ)] [(189,(ZI .shr))] {} ⟨ZzI,ZlH,tv⟩
def Zq2:Entry:=⟨aV (rCo q2 (Zg q11)),qV rI,fun (x:(List Path)×(List Part))=>ZfB x.1 x.2⟩
theorem ZzK:Ok gG 273 Zq2:=mkA Tryz.func273 [((190,0),ZqZ),((322,0),Zq1)] [] {lv:= [(5,⟨[0,1,5,12,13],[],[],pV (rCo q2 (rCo q11 q21)),[]⟩)]} ⟨ZzC,ZzJ,tv⟩
def ZzL:Entry:=⟨aV q29,qV (rTu q3),fun (x:(List Path)×(List Part)×Int)=>ZjC x.1 x.2.1 x.2.2⟩
theorem ZLL:Ok gG 364 ZzL:=mkA Tryz.func364 [((273,0),Zq2),((175,0),X7),((322,0),Zq1)] [] {lv:= [(6,⟨[0,1,9,10],[],[],pV (rCo q2 (rCo q11 q3)),[]⟩)]} ⟨ZzK,Qk,ZzJ,tv⟩
def ZzM:Entry:=⟨aV (rCo q2 (rCo q11 (rCo rI q24))),qV rI,fun (x:(List Path)×(List Part)×Int×Path)=>ZnY x.1 x.2.1 x.2.2.1 x.2.2.2⟩
theorem ZLM:Ok gG 323 ZzM:=mkA Tryz.func323 [((364,0),ZzL),((170,0),Km),((363,0),Zq0),((304,0),ZlG)] [(189,(ZI .shr))] {} ⟨ZLL,K2,ZzI,ZqI,tv⟩
def ZzN:Entry:=⟨aV (rCo q2 (rCo q11 q3)),qV rI,fun (x:(List Path)×(List Part)×Int×Int)=>ZjD x.1 x.2.1 x.2.2.1 x.2.2.2⟩
theorem ZLN:Ok gG 274 ZzN:=mkA Tryz.func274 [((192,0),Q3),((323,0),ZzM)] [(98,Ze)] {} ⟨Vy,ZLM,tv⟩
def ZzO:Entry:=⟨aV q29,qV (rX .own 1 bR),fun (x:(List Path)×(List Part)×Int)=>Zdv x.1 x.2.1 x.2.2⟩
theorem ZLO:Ok gG 195 ZzO:=mkA Tryz.func195 [((192,0),Q3),((273,0),Zq2),((274,0),ZzN)] [] {ro:= [(16,bR)],lv:= [(5,⟨[0,1,2,18,19],[(7,16,true)],[(16,1,true,false)],pVO (rCo q2 (rCo q11 q21)) (Qm bR),[]⟩)]} ⟨Vy,ZzK,ZLN,tv⟩
def ZzP:Entry:=⟨aV q29,qV rI,fun (x:(List Path)×(List Part)×Int)=>Zdw x.1 x.2.1 x.2.2⟩
theorem ZLP:Ok gG 108 ZzP:=mkA Tryz.func108 [((195,0),ZzO)] [(4,bR)] {tk:= [(1,4),(11,1)],lv:= [(4,⟨[7,8,9,17,18],[],[],pV (rCo (rX .own 1 bR) (rCo rI q21)),[]⟩)]} ⟨ZLO,tv⟩
def ZzQ:Entry:=⟨aV q38,qV rI,fun (x:(List Path)×Control×Int)=>ZjE x.1 x.2.1 x.2.2⟩
theorem ZLQ:Ok gG 109 ZzQ:=mkA Tryz.func109 [((169,0),Kn),((179,0),ZlL),((192,0),Q3),((88,0),ZgK),((181,0),ZqQ)] [(3,iR)] {tk:= [(5,4)],lv:= [(4,⟨[0,2,7,8],[(4,4,false)],[(4,4,false,false)],pVO (rCo q2 q21) (YC (XD .shr .shr)),[]⟩)]} ⟨K3,ZqO,Vy,ZlI,Zy8,tv⟩
def ZlT:Entry:=⟨aV (rCo q6 q9),qV rI,fun (x:(List Note)×Int)=>Zdx x.1 x.2⟩
theorem Zq3:Ok gG 196 ZlT:=mkA Tryz.func196 [((168,0),Zej)] [(126,(Zb .shr))] {lv:= [(5,⟨[1,5,12,13,14],[],[],pV (rCo rI (rCo rI (rCo q6 q3))),[]⟩)]} ⟨ZgL,tv⟩
def Zq4:Entry:=⟨aV (rCo q6 q9),qV (rTu (rCo q8 q17)),fun (x:(List Note)×Int)=>ZfC x.1 x.2⟩
theorem ZzR:Ok gG 110 Zq4:=mkA Tryz.func110 [((196,0),ZlT),((160,0),K0)] [(126,(Zb .shr))] {tk:= [(3,1),(4,6)]} ⟨Zq3,Zbj,tv⟩
def Zq5:Entry:=⟨aV (rCo (rAg (Zb .shr)) q9),qV rI,fun (x:Note×Int)=>Zdy x.1 x.2⟩
theorem ZzS:Ok gG 275 Zq5:=mkA Tryz.func275 [] [(3,iR)] {} tv
def ZzT:Entry:=⟨aV (rCo q6 q3),qV rI,fun (x:(List Note)×Int×Int)=>ZfD x.1 x.2.1 x.2.2⟩
theorem ZLR:Ok gG 197 ZzT:=mkA Tryz.func197 [((196,0),ZlT),((275,0),Zq5)] [(126,(Zb .shr))] {} ⟨Zq3,ZzS,tv⟩
def ZzU:Entry:=⟨aV (rCo q6 q3),qV rI,fun (x:(List Note)×Int×Int)=>ZjF x.1 x.2.1 x.2.2⟩
theorem ZLS:Ok gG 198 ZzU:=mkA Tryz.func198 [((196,0),ZlT),((275,0),Zq5)] [(126,(Zb .shr))] {lv:= [(4,⟨[0,1,2,7],[],[],pV (rCo q6 q21),[]⟩)]} ⟨Zq3,ZzS,tv⟩
def ZzV:Entry:=⟨aV (rCo q1 q3),qV (rTu (rCo (rAg Vc) q17)),fun (x:Town×Int×Int)=>Zdz x.1 x.2.1 x.2.2⟩
theorem ZLT:Ok gG 111 ZzV:=mkA Tryz.func111 [((192,0),Q3),((89,0),K4),((197,0),ZzT),((198,0),ZzU),((193,0),ZcI)] [(98,Ze)] {lv:= [(8,⟨[2,8,48,49,50],[(3,3,false),(6,6,false),(9,9,false)],[(3,13,false,false),(6,5,false,false),(9,5,false,false)],pVO (rCo rI (rCo rI q26)) (XR (YD .shr .shr .shr .shr .shr .shr .shr) (XR Vc (YC Vc))),[]⟩)]} ⟨Vy,Zbl,ZLR,ZLS,Zeh,tv⟩
def ZzW:Entry:=⟨aV (Zg (rAg Vc)),qV rS,fun (x:Report)=>ZjG x⟩
theorem ZLU:Ok gG 112 ZzW:=mkA Tryz.func112 [((107,0),Zbk),((97,0),ZqY)] [] {} ⟨ZcH,Zzt,tv⟩
def ZzX:Entry:=⟨aV (rCo (rAg Vc) (Zg (rAg Vc))),qV rS,fun (x:Report×Report)=>ZjH x.1 x.2⟩
theorem ZLV:Ok gG 113 ZzX:=mkA Tryz.func113 [((175,0),X7)] [] {} ⟨Qk,tv⟩
def ZzY:Entry:=⟨aV q9,qV rS,fun (x:Int)=>ZnZ x⟩
theorem ZLW:Ok gG 199 ZzY:=mkA Tryz.func199 [] [] {} tv
def ZzZ:Entry:=⟨aV q28,qV rS,fun (x:Town)=>ZjI x⟩
theorem ZLX:Ok gG 114 ZzZ:=mkA Tryz.func114 [((107,0),Zbk),((180,0),Zel),((199,0),ZzY),((104,0),ZgT)] [] {} ⟨ZcH,ZgO,ZLW,ZlS,tv⟩
def Zz0:Entry:=⟨aV q28,qV rB,fun (x:Town)=>ZjJ x⟩
theorem ZLY:Ok gG 200 Zz0:=mkA Tryz.func200 [((98,0),Zem),((253,0),ZqN)] [] {} ⟨ZgQ,ZyP,tv⟩
def Zz1:Entry:=⟨aV q28,qV rB,fun (x:Town)=>ZjK x⟩
theorem ZLZ:Ok gG 201 Zz1:=mkA Tryz.func201 [((110,0),Zq4),((98,0),Zem),((276,0),ZlO)] [] {tk:= [(1,5),(1,6),(1,8),(2,2)]} ⟨ZzR,ZgQ,ZqU,tv⟩
def Zz2:Entry:=⟨aV q30,qV rI,fun (x:List Path)=>ZjL x⟩
theorem ZL0:Ok gG 324 Zz2:=mkA Tryz.func324 [((163,0),Js),((304,0),ZlG)] [(98,Ze)] {lv:= [(5,⟨[3,10,11,12],[],[],pV (rCo rI q26),[]⟩)]} ⟨Kl,ZqI,tv⟩
def Zz3:Entry:=⟨aV q30,qV rI,fun (x:List Path)=>ZjM x⟩
theorem ZL1:Ok gG 277 Zz3:=mkA Tryz.func277 [((324,0),Zz2)] [] {} ⟨ZL0,tv⟩
def Zz4:Entry:=⟨aV q28,qV rB,fun (x:Town)=>ZjN x⟩
theorem ZL2:Ok gG 202 Zz4:=mkA Tryz.func202 [((277,0),Zz3)] [(119,Zc)] {lv:= [(2,⟨[6,7,8],[(1,1,false)],[(1,13,false,false)],pVO (rCo q10 q3) (YC (YD .shr .shr .shr .shr .shr .shr .shr)),[]⟩)]} ⟨ZL1,tv⟩
def Zz5:Entry:=⟨aV q28,qV rS,fun (x:Town)=>ZjO x⟩
theorem ZL3:Ok gG 115 Zz5:=mkA Tryz.func115 [((89,0),K4),((200,0),Zz0),((201,0),Zz1),((202,0),Zz4)] [] {} ⟨Zbl,ZLY,ZLZ,ZL2,tv⟩
def Zz6:Entry:=⟨aV (rCo q1 (rCo rS q14)),qV rS,fun (x:Town×ByteArray×(List Int))=>YI x.1 x.2.1 x.2.2⟩
theorem ZL4:Ok gG 38 Zz6:=mkA Tryz.func38 [((98,0),Zem),((97,0),ZqY),((99,0),Zzy),((100,0),Zzz),((101,0),ZzA),((103,0),ZzD),((102,0),ZzE),((105,0),ZzG),((104,0),ZgT),((106,0),ZzH),((108,0),ZzP),((107,0),Zbk),((109,0),ZzQ),((110,0),Zq4),((111,0),ZzV),((112,0),ZzW),((113,0),ZzX),((114,0),ZzZ),((115,0),Zz5)] [(3,iR)] {tk:= [(21,6),(21,7),(21,9),(23,0)]} ⟨ZgQ,Zzt,ZLC,ZLD,ZLE,ZLG,ZLH,ZLJ,ZlS,ZLK,ZLP,ZcH,ZLQ,ZzR,ZLT,ZLU,ZLV,ZLX,ZL3,tv⟩
def Zz7:Entry:=⟨aV (rCo q1 q32),qV (rTu (rCo q5 q32)),fun (x:Town×ByteArray)=>ZfE x.1 x.2⟩
theorem ZL5:Ok gG 7 Zz7:=mkA Tryz.func7 [((30,0),Zwv),((31,0),Jr),((32,0),Zyo),((33,0),ZyR),((34,0),ZyS),((36,0),ZyT),((35,0),ZyU),((37,0),Zzs),((38,0),Zz6)] [(3,iR),(9,sR)] {tk:= [(1,1),(6,0),(6,3),(6,4),(9,2),(11,0),(13,2),(14,2),(14,3),(14,6),(15,3),(15,4),(15,6),(18,2),(19,6),(19,7),(19,11),(21,3),(21,8),(22,3),(22,4),(22,6)],mo:= [(15,1),(22,1)],lv:= [(3,⟨[1,6,20,21,22],[(2,2,false),(4,4,false)],[(2,13,false,false),(4,13,false,false)],pVO (rCo rS (rCo q35 (rCo q25 q3))) (XR (YD .shr .shr .shr .shr .shr .shr .shr) (YC (YD .own .own .own .own .own .own .own))),[]⟩)]} ⟨ZI7,Kk,ZKG,ZK2,ZK3,ZK4,ZK5,ZLx,ZL4,tv⟩
def Zz8:Entry:=⟨aV (rCo (rAg Ze) q24),qV rB,fun (x:Path×Path)=>ZjP x.1 x.2⟩
theorem ZL6:Ok gG 116 Zz8:=mkA Tryz.func116 [] [] {} tv
def Zz9:Entry:=⟨aV (rCo q2 q30),qV rB,fun (x:(List Path)×(List Path))=>ZjQ x.1 x.2⟩
theorem ZL7:Ok gG 39 Zz9:=mkA Tryz.func39 [((116,0),Zz8)] [(98,Ze)] {lv:= [(4,⟨[0,1,5],[],[],pV (rCo q2 (rCo q2 q9)),[]⟩)]} ⟨ZL6,tv⟩
def Zq6:Entry:=⟨aV (rCo q4 q14),qV rB,fun (x:(List Int)×(List Int))=>ZdA x.1 x.2⟩
theorem ZAa:Ok gG 117 Zq6:=mkA Tryz.func117 [] [(3,iR)] {lv:= [(4,⟨[0,1,5],[],[],pV (rCo q4 q33),[]⟩)]} tv
def ZAb:Entry:=⟨aV (rCo q7 (Zg q7)),qV rB,fun (x:Control×Control)=>ZjR x.1 x.2⟩
theorem ZL8:Ok gG 40 ZAb:=mkA Tryz.func40 [((117,0),Zq6)] [] {} ⟨ZAa,tv⟩
def ZAc:Entry:=⟨aV (rCo (rAg Zc) (Zg (rAg Zc))),qV rB,fun (x:Want×Want)=>ZjS x.1 x.2⟩
theorem ZL9:Ok gG 118 ZAc:=mkA Tryz.func118 [] [] {} tv
def ZAd:Entry:=⟨aV (rCo q10 (Zg q10)),qV rB,fun (x:(List Want)×(List Want))=>ZjT x.1 x.2⟩
theorem ZMa:Ok gG 41 ZAd:=mkA Tryz.func41 [((118,0),ZAc)] [(119,Zc)] {lv:= [(4,⟨[0,1,5],[],[],pV (rCo q10 (rCo q10 q9)),[]⟩)]} ⟨ZL9,tv⟩
def ZAe:Entry:=⟨aV (rCo (rAg V4) q23),qV rB,fun (x:Prio×Prio)=>ZjU x.1 x.2⟩
theorem ZMb:Ok gG 42 ZAe:=mkA Tryz.func42 [] [] {} tv
def ZAf:Entry:=⟨aV (rCo (rAg Zl) (Zg (rAg Zl))),qV rB,fun (x:Lamp×Lamp)=>ZjV x.1 x.2⟩
theorem ZMc:Ok gG 119 ZAf:=mkA Tryz.func119 [] [] {} tv
def ZAg:Entry:=⟨aV (rCo q12 (Zg q12)),qV rB,fun (x:(List Lamp)×(List Lamp))=>ZjW x.1 x.2⟩
theorem ZMd:Ok gG 43 ZAg:=mkA Tryz.func43 [((119,0),ZAf)] [(123,Zl)] {lv:= [(4,⟨[0,1,5],[],[],pV (rCo q12 (rCo q12 q9)),[]⟩)]} ⟨ZMc,tv⟩
def ZAh:Entry:=⟨aV (rCo (rAg (Zb .shr)) (Zg (rAg (Zb .shr)))),qV rB,fun (x:Note×Note)=>ZjX x.1 x.2⟩
theorem ZMe:Ok gG 120 ZAh:=mkA Tryz.func120 [((117,0),Zq6)] [] {} ⟨ZAa,tv⟩
def ZAi:Entry:=⟨aV (rCo q6 (Zg q6)),qV rB,fun (x:(List Note)×(List Note))=>ZjY x.1 x.2⟩
theorem ZMf:Ok gG 44 ZAi:=mkA Tryz.func44 [((120,0),ZAh)] [(126,(Zb .shr))] {lv:= [(4,⟨[0,1,5],[],[],pV (rCo q6 (rCo q6 q9)),[]⟩)]} ⟨ZMe,tv⟩
def ZAj:Entry:=⟨aV (rCo q1 q28),qV rB,fun (x:Town×Town)=>Zcc x.1 x.2⟩
theorem ZMg:Ok gG 8 ZAj:=mkA Tryz.func8 [((39,0),Zz9),((40,0),ZAb),((41,0),ZAd),((42,0),ZAe),((43,0),ZAg),((44,0),ZAi)] [] {} ⟨ZL7,ZL8,ZMa,ZMb,ZMd,ZMf,tv⟩
def ZAk:Entry:=⟨aV (rCo (rX .unq 4 Ze) q9),qV (rTu (rCo rI (Zg (rX .unq 4 Ze)))),fun (x:(List Path)×Int)=>ZjZ x.1 x.2⟩
theorem ZMh:OkU gG 45 ZAk:=mkU Tryz.func45 (by kernel_rfl) [] [] n0 [] {ro:= [(0,Ze)],lv:= [(2,⟨[1,5],[(0,0,true)],[(0,4,true,false)],pVO q3 (Qm Ze),[]⟩)]} tv tv (fun x=>by kernel_rfl)
def Zq7:Entry:=⟨aV (rCo (rX .unq 1 iR) q9),qV (rTu (rCo rI (Zg (rX .unq 1 iR)))),fun (x:(List Int)×Int)=>ZdB x.1 x.2⟩
theorem ZAl:OkU gG 121 Zq7:=mkU Tryz.func121 (by kernel_rfl) [] [] n0 [] {ro:= [(0,iR)],lv:= [(2,⟨[1,5],[(0,0,true)],[(0,1,true,false)],pVO q3 (Qm iR),[]⟩)]} tv tv (fun x=>by kernel_rfl)
def ZAm:Entry:=⟨aV (rCo (rAg (XD .unq .unq)) q9),qV (rTu (rCo rI (Zg (rAg (XD .unq .unq))))),fun (x:Control×Int)=>Zj0 x.1 x.2⟩
theorem ZMi:OkU gG 46 ZAm:=mkU Tryz.func46 (by kernel_rfl) [] [((121,0),Zq7)] n0 [] {hb:= [((0,0),1),((1,1),1),((1,3),3),((2,1),1),((2,3),3)]} tv ⟨ZAl,tv⟩ (fun x=>by kernel_rfl)
def ZAn:Entry:=⟨aV (rCo (rX .unq 2 Zc) q9),qV (rTu (rCo rI (Zg (rX .unq 2 Zc)))),fun (x:(List Want)×Int)=>Zj1 x.1 x.2⟩
theorem ZMj:OkU gG 47 ZAn:=mkU Tryz.func47 (by kernel_rfl) [] [] n0 [] {ro:= [(0,Zc)],lv:= [(2,⟨[1,5],[(0,0,true)],[(0,2,true,false)],pVO q3 (Qm Zc),[]⟩)]} tv tv (fun x=>by kernel_rfl)
def ZAo:Entry:=⟨aV (rCo (rX .unq 3 Zl) q9),qV (rTu (rCo rI (Zg (rX .unq 3 Zl)))),fun (x:(List Lamp)×Int)=>Zj2 x.1 x.2⟩
theorem ZMk:OkU gG 48 ZAo:=mkU Tryz.func48 (by kernel_rfl) [] [] n0 [] {ro:= [(0,Zl)],lv:= [(2,⟨[1,5],[(0,0,true)],[(0,3,true,false)],pVO q3 (Qm Zl),[]⟩)]} tv tv (fun x=>by kernel_rfl)
def ZAp:Entry:=⟨aV (rCo (rX .unq 3 (Zb .unq)) q9),qV (rTu (rCo rI (Zg (rX .unq 3 (Zb .unq))))),fun (x:(List Note)×Int)=>Zj3 x.1 x.2⟩
theorem ZMl:OkU gG 49 ZAp:=mkU Tryz.func49 (by kernel_rfl) [] [((121,0),Zq7)] n0 [] {hb:= [((6,4),1),((6,6),3)],ro:= [(0,(Zb .unq))],lv:= [(2,⟨[1,5],[(0,0,true)],[(0,3,true,false)],pVO q3 (Qm (Zb .unq)),[]⟩)]} tv ⟨ZAl,tv⟩ (fun x=>by kernel_rfl)
def ZAq:Entry:=⟨aV (rCo q16 q9),qV (rTu (rCo rI (Zg q16))),fun (x:Town×Int)=>ZfF x.1 x.2⟩
theorem ZMm:OkU gG 9 ZAq:=mkU Tryz.func9 (by kernel_rfl) [] [((45,0),ZAk),((46,0),ZAm),((47,0),ZAn),((48,0),ZAo),((49,0),ZAp)] n0 [] {hb:= [((0,0),1),((1,1),1),((1,3),3),((2,1),1),((2,3),3),((3,1),1),((3,3),3),((4,1),1),((4,3),3),((5,1),1),((5,3),3)]} tv ⟨ZMh,ZMi,ZMj,ZMk,ZMl,tv⟩ (fun x=>by kernel_rfl)
def ZAr:Entry:=⟨aV (rCo q2 q9),qV rI,fun (x:(List Path)×Int)=>Zj4 x.1 x.2⟩
theorem ZMn:Ok gG 50 ZAr:=mkA Tryz.func50 [] [(98,Ze)] {lv:= [(2,⟨[0,1,5],[],[],pV q26,[]⟩)]} tv
def Zq8:Entry:=⟨aV q33,qV rI,fun (x:(List Int)×Int)=>ZdC x.1 x.2⟩
theorem ZAs:Ok gG 122 Zq8:=mkA Tryz.func122 [] [(3,iR)] {lv:= [(2,⟨[0,1,5],[],[],pV q34,[]⟩)]} tv
def ZAt:Entry:=⟨aV (rCo q7 q9),qV rI,fun (x:Control×Int)=>Zj5 x.1 x.2⟩
theorem ZMo:Ok gG 51 ZAt:=mkA Tryz.func51 [((122,0),Zq8)] [] {} ⟨ZAs,tv⟩
def ZAu:Entry:=⟨aV (rCo q10 q9),qV rI,fun (x:(List Want)×Int)=>Zj6 x.1 x.2⟩
theorem ZMp:Ok gG 52 ZAu:=mkA Tryz.func52 [] [(119,Zc)] {lv:= [(2,⟨[0,1,5],[],[],pV (rCo q10 q3),[]⟩)]} tv
def ZAv:Entry:=⟨aV (rCo q12 q9),qV rI,fun (x:(List Lamp)×Int)=>Zj7 x.1 x.2⟩
theorem ZMq:Ok gG 53 ZAv:=mkA Tryz.func53 [] [(123,Zl)] {lv:= [(2,⟨[0,1,5],[],[],pV (rCo q12 q3),[]⟩)]} tv
def ZAw:Entry:=⟨aV (rCo q6 q9),qV rI,fun (x:(List Note)×Int)=>Zj8 x.1 x.2⟩
theorem ZMr:Ok gG 54 ZAw:=mkA Tryz.func54 [((122,0),Zq8)] [(126,(Zb .shr))] {lv:= [(2,⟨[0,1,5],[],[],pV (rCo q6 q3),[]⟩)]} ⟨ZAs,tv⟩
def ZAx:Entry:=⟨aV (rCo q1 q9),qV rI,fun (x:Town×Int)=>ZfG x.1 x.2⟩
theorem ZMs:Ok gG 10 ZAx:=mkA Tryz.func10 [((50,0),ZAr),((51,0),ZAt),((52,0),ZAu),((53,0),ZAv),((54,0),ZAw)] [] {} ⟨ZMn,ZMo,ZMp,ZMq,ZMr,tv⟩
def ZlU:Entry:=⟨aV (rCo q1 q32),qV rB,fun (x:Town×ByteArray)=>Zj9 x.1 x.2⟩
theorem ZMt:Ok gG 3 ZlU:=mk Tryz.func3 (by kernel_rfl) [((4,0),ZwI),((6,0),ZwU),((5,0),Zyi),((7,0),Zz7),((8,0),ZAj),((10,0),ZAx)] [((9,0),ZAq)] n0 [] {tk:= [(8,3),(9,3),(9,4),(9,7),(26,4),(26,5),(26,8)],hb:= [((8,1),2),((9,0),1),((9,2),2),((10,0),1),((10,2),2),((12,0),1),((12,3),2),((15,0),1),((15,2),3),((16,3),1),((16,5),2),((19,0),1),((19,2),3),((21,0),1),((21,2),2),((26,3),2),((27,0),1),((27,2),2),((30,0),1),((30,2),2)],rt:= [((8,1),q16),((9,2),(rTu (rCo q16 q32))),((26,3),(rTu (rCo q16 q32)))]} ⟨ZJj,ZJu,ZKD,ZL5,ZMg,ZMs,tv⟩ ⟨ZMm,tv⟩ (fun x=>by kernel_rfl)
end
end Go.Proofs.YthkckbidcpmckaaGreatDoor
