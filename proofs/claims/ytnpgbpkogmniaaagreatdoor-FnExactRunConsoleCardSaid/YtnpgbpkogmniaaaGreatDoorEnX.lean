/- Part of the proof: see the last text of the claim. -/
import Derived.Test.YtnpgbpkogmniaaaGreatDoorInsX
import Derived.Test.YtnpgbpkogmniaaaGreatDoorSrtX
import Derived.Test.YtnpgbpkogmniaaaGreatDoorShX
import Derived.KernelRfl
import Derived.Test.YtnpgbpkogmniaaaGreatDoorRows
set_option linter.all false
namespace Go.Proofs.YtnpgbpkogmniaaaGreatDoor
open Go.Fx Go.Sh
set_option maxRecDepth 100000
set_option linter.unusedSectionVars false
def emS:Value:= .string ⟨#[]⟩
def tab:List (Nat×TD):= [(3, .sc (.int .i64 0)),
 (4, .sc (.bool false)),
 (5, .sc (.int .u8 0)),
 (9, .sc emS),
 (22, .sl 9 1),
 (29, .sl 3 1),
 (40, .sl 106 4),
 (41, .st [(some 1, .slice none 0 0),(none, .int .i64 0),(some 1, .slice none 0 0),(none, .int .i64 0)] [(0,1),(1,1),(2,1),(3,1)]),
 (42, .sl 127 2),
 (43, .st [(none, .int .i64 0),(none, .int .i64 0)] [(0,1),(1,1)]),
 (44, .sl 131 3),
 (45, .sl 134 3),
 (47, .st [(some 4, .slice none 0 0),(some 1, .slice none 0 0),(none, .int .i64 0),(some 1, .slice none 0 0),(none, .int .i64 0),(some 2, .slice none 0 0),(none, .int .i64 0),(none, .int .i64 0),(some 3, .slice none 0 0),(none, .bool false),(some 3, .slice none 0 0),(none, .int .i64 0),(none, .int .i64 0)] [(0,1),(1,4),(5,1),(6,2),(8,1),(9,1),(10,1),(11,1),(12,1)]),
 (67, .st [(none, .int .i64 0),(none, .int .i64 0),(none, .int .i64 0),(none, .bool false)] [(0,1),(1,1),(2,1),(3,1)]),
 (98, .sl 5 1),
 (106, .st [(none, .int .i64 0),(none, .int .i64 0),(none, .int .i64 0),(none, .int .i64 0)] [(0,1),(1,1),(2,1),(3,1)]),
 (118, .st [(none, .int .i64 0),(none, .int .i64 0),(none, .int .i64 0),(none, .int .i64 0),(none, .int .i64 0)] [(0,1),(1,1),(2,1),(3,1),(4,1)]),
 (127, .st [(none, .int .i64 0),(none, .int .i64 0)] [(0,1),(1,1)]),
 (131, .st [(none, .int .i64 0),(none, .int .i64 0),(none, .bool false)] [(0,1),(1,1),(2,1)]),
 (134, .st [(none, .int .i64 0),(some 1, .slice none 0 0),(none, .int .i64 0)] [(0,1),(1,1),(2,1)]),
 (139, .sl 29 1),
 (150, .sl 195 2),
 (165, .sc .nilFunc),
 (195, .st [(some 1, .slice none 0 0),(none, .int .i64 0)] [(0,1),(1,1)]),
 (198, .sl 4 1),
 (216, .sc .nilFunc),
 (221, .sc .nilFunc),
 (232, .sc (.int .u64 0)),
 (248, .sc .nilFunc)]
theorem Zkn:TOk Tryz.prog (Zau tab):=ZyJ (by kernel_rfl)
theorem mixed:Tryz.prog.follows .mixedOrders=true:=by kernel_rfl
abbrev nG:Nat:=4
class GOk (gG:Nat->Option Obj):Prop where
 max:∃m:Int,∀w:World,(∀b,b < nG->w.heap[b]? =gG b)->w.cell? ⟨0,0,none⟩=some (.int .i64 m)
 tab:∀w:World,(∀b,b < nG->w.heap[b]? =gG b)->Lib.TabIs Tryz.prog w "internal/strconv.uint64pow10" .u64 Lib.pow10Tab
variable {gG:Nat->Option Obj} [GOk gG]
abbrev Ok (gG:Nat->Option Obj) (f:Nat) (en:Entry):Prop:=VG Tryz.prog nG gG f en
abbrev n0:Nat->Bool:=fun _=>false
abbrev OkU (gG:Nat->Option Obj) (f:Nat) (en:Entry):Prop:=Zg1 Tryz.prog nG gG f en
theorem mk {f:Nat} {fn:Func} {en:Entry} (hfn:Tryz.prog.funcs[f]? =some fn) (hname:(fn.name== "runtime.NumGoroutine")=false) (cs us:List ((Nat×Nat)×Entry)) (gs:Nat->Bool) (R:List (Nat×RR)) (h:Hints) (hcs:ZbO Tryz.prog nG gG cs) (hus:Zc1 Tryz.prog nG gG us)
  (hL:∀x,Zep (ZbF (Zau tab) cs us gs R h fn.ntmps NN) fn en.rs (en.ps.enc x).1 (en.ps.enc x).2=en.S x):Ok gG f en:=ZA2 Zkn mixed hfn hname hcs hus hL
theorem mkA {f:Nat} {fn:Func} {en:Entry} (hfn:Tryz.prog.funcs[f]? =some fn) (cs:List ((Nat×Nat)×Entry)) (R:List (Nat×RR)) (h:Hints) (hcs:ZbO Tryz.prog nG gG cs)
  (hname:(fn.name== "runtime.NumGoroutine")=false:=by kernel_rfl) (hL:∀x,Zep (ZbF (Zau tab) cs [] n0 R h fn.ntmps NN) fn en.rs (en.ps.enc x).1 (en.ps.enc x).2=en.S x:=by intro x;kernel_rfl):Ok gG f en:=mk hfn hname cs [] n0 R h hcs trivial hL
theorem mkU {f:Nat} {fn:Func} {en:Entry} (hfn:Tryz.prog.funcs[f]? =some fn) (hname:(fn.name== "runtime.NumGoroutine")=false) (cs us:List ((Nat×Nat)×Entry)) (gs:Nat->Bool) (R:List (Nat×RR)) (h:Hints) (hcs:ZbO Tryz.prog nG gG cs) (hus:Zc1 Tryz.prog nG gG us)
  (hL:∀x,Zhh (ZbF (Zau tab) cs us gs R h fn.ntmps NN true) fn en.rs (en.ps.enc x).1=en.S x):OkU gG f en:=ZA3 Zkn mixed hfn hname hcs hus hL
noncomputable section
abbrev q1:=rAg (Ys .shr .shr .shr .shr .shr .shr .shr)
abbrev q2:=rX .shr 4 Zi
abbrev q3:=rCo rI (Zb rI)
abbrev q4:=rX .shr 1 iR
abbrev q5:=rCo (rAg (Ys .own .own .own .own .own .own .own)) (Zb rB)
abbrev q6:=rX .own 1 iR
abbrev q7:=rAg (Qv .shr .shr)
abbrev q8:=rX .shr 3 (Zg .shr)
abbrev q9:=Zb rI
abbrev q10:=rX .shr 2 (ZJ .shr)
abbrev q11:=rX .shr 2 Zd
abbrev q12:=Zb q4
abbrev q13:=rX .shr 3 Zu
abbrev q14:=rAg (Qv .own .own)
abbrev q15:=rX .shr 1 sR
abbrev q16:=Zb rB
abbrev q17:=rAg (Ys .own .own .own .own .own .own .own)
abbrev q18:=rX .own 1 sR
abbrev q19:=rCo q2 (rCo q7 (Zb q11))
abbrev q20:=rX .own 2 Zd
abbrev q21:=rCo rI q3
abbrev q22:=rX .shr 1 q12
abbrev q23:=rX .own 3 (Zg .own)
abbrev q24:=rCo q2 q3
abbrev q25:=rCo q2 (Zb q7)
abbrev q26:=rCo q2 (rCo q10 q9)
abbrev q27:=Zb rS
abbrev q28:=Zb q1
abbrev q29:=Zb (rRp iR)
abbrev q30:=Zb (rAg ZaC)
abbrev q31:=Zb (rAg Zi)
abbrev q32:=Zb q2
abbrev q33:=rX .own 1 (Zb q6)
abbrev q34:=rCo q6 q9
abbrev q35:=rCo q4 q3
abbrev q36:=rCo q2 (rCo q7 q9)
def Zu7:Go.Shelf.Ren:=⟨fun | 156=>269 | 165=>321 | 166=>322 | 169=>323 | 240=>352 | 241=>353 | 276=>377 | 277=>378 |n=>n,fun | 31=>22 | 9=>9 | 3=>3 | 4=>4 | 0=>0 | 20=>20 | 72=>252 | 76=>256 | 70=>250 | 37=>98 | 75=>255 | 127=>278 | 164=>299 | 5=>5 | 80=>258 |n=>n,fun n=>n⟩
theorem ZGz:Go.Proofs.Lays.n156 Tryz.prog Zu7 where
 mixed:=by kernel_rfl
 f156:=Tryz.func269.trans (UC some (by kernel_rfl))
 f165:=Tryz.func321.trans (UC some (by kernel_rfl))
 f166:=Tryz.func322.trans (UC some (by kernel_rfl))
 f169:=Tryz.func323.trans (UC some (by kernel_rfl))
 f240:=Tryz.func352.trans (UC some (by kernel_rfl))
 f241:=Tryz.func353.trans (UC some (by kernel_rfl))
 f276:=Tryz.func377.trans (UC some (by kernel_rfl))
 f277:=Tryz.func378.trans (UC some (by kernel_rfl))
 t0:=Tryz.underlying0
 a0:=Tryz.isAgg0
 z0:=Tryz.sizeOf0
 v0:=Tryz.zeroValue0
 t3:=Tryz.underlying3
 a3:=Tryz.isAgg3
 z3:=Tryz.sizeOf3
 v3:=Tryz.zeroValue3
 t4:=Tryz.underlying4
 a4:=Tryz.isAgg4
 z4:=Tryz.sizeOf4
 v4:=Tryz.zeroValue4
 t9:=Tryz.underlying9
 a9:=Tryz.isAgg9
 z9:=Tryz.sizeOf9
 v9:=Tryz.zeroValue9
 t20:=Tryz.underlying20
 a20:=Tryz.isAgg20
 z20:=Tryz.sizeOf20
 v20:=Tryz.zeroValue20
 t31:=Tryz.underlying22
 a31:=Tryz.isAgg22
 z31:=Tryz.sizeOf22
 v31:=Tryz.zeroValue22
 t37:=Tryz.underlying98
 a37:=Tryz.isAgg98
 z37:=Tryz.sizeOf98
 v37:=Tryz.zeroValue98
 t70:=Tryz.underlying250
 a70:=Tryz.isAgg250
 z70:=Tryz.sizeOf250
 v70:=Tryz.zeroValue250
 t72:=Tryz.underlying252
 a72:=Tryz.isAgg252
 z72:=Tryz.sizeOf252
 v72:=Tryz.zeroValue252
 t75:=Tryz.underlying255
 a75:=Tryz.isAgg255
 z75:=Tryz.sizeOf255
 v75:=Tryz.zeroValue255
 t76:=Tryz.underlying256
 a76:=Tryz.isAgg256
 z76:=Tryz.sizeOf256
 v76:=Tryz.zeroValue256
 t127:=Tryz.underlying278
 a127:=Tryz.isAgg278
 z127:=Tryz.sizeOf278
 v127:=Tryz.zeroValue278
 t164:=Tryz.underlying299
 a164:=Tryz.isAgg299
 z164:=Tryz.sizeOf299
 v164:=Tryz.zeroValue299
theorem ZGA:Go.Proofs.Builder.Extra Tryz.prog Zu7 where
 sizeBuilder:=by kernel_rfl
 liesBuilder:=by kernel_rfl
 t5:=Tryz.underlying5
 a5:=Tryz.isAgg5
 z5:=Tryz.sizeOf5
 v5:=Tryz.zeroValue5
 infoByte:=by kernel_rfl
 cellsByte:=by kernel_rfl
 sizeByte:=by kernel_rfl
 neB5:=by decide
def ZGB:Go.Shelf.Ren:=⟨fun | 171=>201 | 243=>279 | 246=>328 | 283=>366 | 284=>367 | 285=>368 | 286=>369 | 129=>364 | 317=>384 | 318=>385 | 319=>386 | 320=>387 | 337=>390 | 338=>391 |n=>n,fun | 3=>3 | 9=>9 | 2=>2 | 4=>4 | 171=>290 | 0=>0 | 53=>289 | 37=>98 | 5=>5 | 173=>292 | 212=>309 | 51=>268 | 20=>20 | 213=>310 | 46=>232 | 232=>314 | 233=>315 |n=>n,fun | 17=>3 | 18=>4 | 19=>5 |n=>n⟩
theorem ZGC:Go.Proofs.LaysM.n171 Tryz.prog ZGB where
 mixed:=by kernel_rfl
 f129:=Tryz.func364.trans (UC some (by kernel_rfl))
 f171:=Tryz.func201.trans (UC some (by kernel_rfl))
 f243:=Tryz.func279.trans (UC some (by kernel_rfl))
 f246:=Tryz.func328.trans (UC some (by kernel_rfl))
 f283:=Tryz.func366.trans (UC some (by kernel_rfl))
 f284:=Tryz.func367.trans (UC some (by kernel_rfl))
 f285:=Tryz.func368.trans (UC some (by kernel_rfl))
 f286:=Tryz.func369.trans (UC some (by kernel_rfl))
 f317:=Tryz.func384.trans (UC some (by kernel_rfl))
 f318:=Tryz.func385.trans (UC some (by kernel_rfl))
 f319:=Tryz.func386.trans (UC some (by kernel_rfl))
 f320:=Tryz.func387.trans (UC some (by kernel_rfl))
 f337:=Tryz.func390.trans (UC some (by kernel_rfl))
 f338:=Tryz.func391.trans (UC some (by kernel_rfl))
 t0:=Tryz.underlying0
 a0:=Tryz.isAgg0
 z0:=Tryz.sizeOf0
 v0:=Tryz.zeroValue0
 t2:=Tryz.underlying2
 a2:=Tryz.isAgg2
 z2:=Tryz.sizeOf2
 v2:=Tryz.zeroValue2
 t3:=Tryz.underlying3
 a3:=Tryz.isAgg3
 z3:=Tryz.sizeOf3
 v3:=Tryz.zeroValue3
 t4:=Tryz.underlying4
 a4:=Tryz.isAgg4
 z4:=Tryz.sizeOf4
 v4:=Tryz.zeroValue4
 t5:=Tryz.underlying5
 a5:=Tryz.isAgg5
 z5:=Tryz.sizeOf5
 v5:=Tryz.zeroValue5
 t9:=Tryz.underlying9
 a9:=Tryz.isAgg9
 z9:=Tryz.sizeOf9
 v9:=Tryz.zeroValue9
 t20:=Tryz.underlying20
 a20:=Tryz.isAgg20
 z20:=Tryz.sizeOf20
 v20:=Tryz.zeroValue20
 t37:=Tryz.underlying98
 a37:=Tryz.isAgg98
 z37:=Tryz.sizeOf98
 v37:=Tryz.zeroValue98
 t46:=Tryz.underlying232
 a46:=Tryz.isAgg232
 z46:=Tryz.sizeOf232
 v46:=Tryz.zeroValue232
 t51:=Tryz.underlying268
 a51:=Tryz.isAgg268
 z51:=Tryz.sizeOf268
 v51:=Tryz.zeroValue268
 t53:=Tryz.underlying289
 a53:=Tryz.isAgg289
 z53:=Tryz.sizeOf289
 v53:=Tryz.zeroValue289
 t171:=Tryz.underlying290
 a171:=Tryz.isAgg290
 z171:=Tryz.sizeOf290
 v171:=Tryz.zeroValue290
 t173:=Tryz.underlying292
 a173:=Tryz.isAgg292
 z173:=Tryz.sizeOf292
 v173:=Tryz.zeroValue292
 t212:=Tryz.underlying309
 a212:=Tryz.isAgg309
 z212:=Tryz.sizeOf309
 v212:=Tryz.zeroValue309
 t213:=Tryz.underlying310
 a213:=Tryz.isAgg310
 z213:=Tryz.sizeOf310
 t232:=Tryz.underlying314
 a232:=Tryz.isAgg314
 z232:=Tryz.sizeOf314
 v232:=Tryz.zeroValue314
 t233:=Tryz.underlying315
 a233:=Tryz.isAgg315
 z233:=Tryz.sizeOf315
 v233:=Tryz.zeroValue315
 g17:=by kernel_rfl
 g18:=by kernel_rfl
 g19:=by kernel_rfl
 i0:=by kernel_rfl
 i2:=by kernel_rfl
 i3:=by kernel_rfl
 i4:=by kernel_rfl
 i5:=by kernel_rfl
 i9:=by kernel_rfl
 i20:=by kernel_rfl
 i37:=by kernel_rfl
 i46:=by kernel_rfl
 i51:=by kernel_rfl
 i53:=by kernel_rfl
 i171:=by kernel_rfl
 i173:=by kernel_rfl
 i212:=by kernel_rfl
 i232:=by kernel_rfl
 i233:=by kernel_rfl
 m17:=by kernel_rfl
 m18:=by kernel_rfl
 m19:=by kernel_rfl
def ZGD:Go.Shelf.Ren:=⟨fun | 137=>168 | 217=>250 | 266=>305 |n=>n,fun | 9=>9 | 5=>5 | 3=>3 |n=>n,fun n=>n⟩
theorem ZGE:Go.Proofs.Lays.n137 Tryz.prog ZGD where
 mixed:=by kernel_rfl
 f137:=Tryz.func168.trans (UC some (by kernel_rfl))
 f217:=Tryz.func250.trans (UC some (by kernel_rfl))
 f266:=Tryz.func305.trans (UC some (by kernel_rfl))
 t3:=Tryz.underlying3
 a3:=Tryz.isAgg3
 z3:=Tryz.sizeOf3
 v3:=Tryz.zeroValue3
 t5:=Tryz.underlying5
 a5:=Tryz.isAgg5
 z5:=Tryz.sizeOf5
 v5:=Tryz.zeroValue5
 t9:=Tryz.underlying9
 a9:=Tryz.isAgg9
 z9:=Tryz.sizeOf9
 v9:=Tryz.zeroValue9
def ZGF:Go.Shelf.Ren:=⟨fun | 146=>17 | 221=>62 | 268=>130 | 138=>131 | 143=>132 | 195=>210 | 197=>211 | 218=>212 | 219=>213 | 260=>285 | 217=>250 | 225=>286 | 224=>287 | 267=>288 | 266=>305 | 314=>332 |n=>n,fun | 9=>9 | 31=>22 | 3=>3 | 4=>4 | 0=>0 | 105=>200 | 21=>21 | 5=>5 | 46=>232 | 119=>264 | 139=>267 | 138=>266 | 146=>269 | 51=>268 |n=>n,fun | 1=>0 | 3=>1 | 4=>2 |n=>n⟩
theorem ZGG:Go.Proofs.Lays.n146 Tryz.prog ZGF where
 mixed:=by kernel_rfl
 f138:=Tryz.func131.trans (UC some (by kernel_rfl))
 f143:=Tryz.func132.trans (UC some (by kernel_rfl))
 f146:=Tryz.func17.trans (UC some (by kernel_rfl))
 f195:=Tryz.func210.trans (UC some (by kernel_rfl))
 f197:=Tryz.func211.trans (UC some (by kernel_rfl))
 f217:=Tryz.func250.trans (UC some (by kernel_rfl))
 f218:=Tryz.func212.trans (UC some (by kernel_rfl))
 f219:=Tryz.func213.trans (UC some (by kernel_rfl))
 f221:=Tryz.func62.trans (UC some (by kernel_rfl))
 f224:=Tryz.func287.trans (UC some (by kernel_rfl))
 f225:=Tryz.func286.trans (UC some (by kernel_rfl))
 f260:=Tryz.func285.trans (UC some (by kernel_rfl))
 f266:=Tryz.func305.trans (UC some (by kernel_rfl))
 f267:=Tryz.func288.trans (UC some (by kernel_rfl))
 f268:=Tryz.func130.trans (UC some (by kernel_rfl))
 f314:=Tryz.func332.trans (UC some (by kernel_rfl))
 t0:=Tryz.underlying0
 a0:=Tryz.isAgg0
 z0:=Tryz.sizeOf0
 v0:=Tryz.zeroValue0
 t3:=Tryz.underlying3
 a3:=Tryz.isAgg3
 z3:=Tryz.sizeOf3
 v3:=Tryz.zeroValue3
 t4:=Tryz.underlying4
 a4:=Tryz.isAgg4
 z4:=Tryz.sizeOf4
 v4:=Tryz.zeroValue4
 t5:=Tryz.underlying5
 a5:=Tryz.isAgg5
 z5:=Tryz.sizeOf5
 v5:=Tryz.zeroValue5
 t9:=Tryz.underlying9
 a9:=Tryz.isAgg9
 z9:=Tryz.sizeOf9
 v9:=Tryz.zeroValue9
 t21:=Tryz.underlying21
 a21:=Tryz.isAgg21
 z21:=Tryz.sizeOf21
 v21:=Tryz.zeroValue21
 t31:=Tryz.underlying22
 a31:=Tryz.isAgg22
 z31:=Tryz.sizeOf22
 v31:=Tryz.zeroValue22
 t46:=Tryz.underlying232
 a46:=Tryz.isAgg232
 z46:=Tryz.sizeOf232
 v46:=Tryz.zeroValue232
 t51:=Tryz.underlying268
 a51:=Tryz.isAgg268
 z51:=Tryz.sizeOf268
 v51:=Tryz.zeroValue268
 t105:=Tryz.underlying200
 a105:=Tryz.isAgg200
 z105:=Tryz.sizeOf200
 v105:=Tryz.zeroValue200
 t119:=Tryz.underlying264
 a119:=Tryz.isAgg264
 z119:=Tryz.sizeOf264
 t138:=Tryz.underlying266
 a138:=Tryz.isAgg266
 z138:=Tryz.sizeOf266
 v138:=Tryz.zeroValue266
 t139:=Tryz.underlying267
 a139:=Tryz.isAgg267
 z139:=Tryz.sizeOf267
 v139:=Tryz.zeroValue267
 t146:=Tryz.underlying269
 a146:=Tryz.isAgg269
 z146:=Tryz.sizeOf269
 v146:=Tryz.zeroValue269
 g1:=by kernel_rfl
 g3:=by kernel_rfl
 g4:=by kernel_rfl
def Zu8:Entry:=⟨aV (rCo (rX .unq 1 (Zb q6)) (Zb (rFn 273 Zee))),qV (rSo (rX .unq 1 (Zb q6))),fun (x:((List (List Int))×Unit))=>ZmF x.1⟩
theorem ZGH:OkU gG 272 Zu8:=fun x r hS _ _=>by
 obtain ⟨h1,rfl⟩:=ZGx hS;exact ZGy x.1 h1
def ZoV:Entry:=⟨aV (rCo rS q27),qV q15,fun (x:ByteArray×ByteArray)=>ZaL x.1 x.2⟩
theorem Zu9:Ok gG 17 ZoV:=ZBV ZGG (by kernel_rfl) rfl Tryz.func17 (by kernel_rfl) (by kernel_rfl) GOk.max
def Zva:Entry:=⟨aV (rCo rS (Zb rY)),qV rI,fun (x:ByteArray×Int)=>ZeF x.1 x.2⟩
theorem ZGI:Ok gG 168 Zva:=ZBM ZGE rfl Tryz.func168 (by kernel_rfl) (by kernel_rfl)
def Zvb:Entry:=⟨aV q9,qV rS,fun (x:Int)=>Zc7 x⟩
theorem ZGJ:Ok gG 201 Zvb:=ZBL ZGC rfl Tryz.func201 (by kernel_rfl) (by kernel_rfl) GOk.tab
def Zvc:Entry:=⟨aV (rCo (rX .unq 1 iR) (rCo rI (Zb q6))),qV q6,fun (x:(List Int)×Int×(List Int))=>ZmE x.1 x.2.1 x.2.2⟩
theorem ZGK:Ok gG 308 Zvc:=Zsa (R:=iR) Zkn (t:=29) (e:=3) (k:=1) rfl rfl ZGk (fun x a ha=>by simp [iR,RT.map,rCo,Zb,rI,rB] at ha;first |exact ⟨_,ha⟩ | (rcases ha with rfl |rfl <;> exact ⟨_,rfl⟩) | (rcases ha with rfl |rfl |rfl <;> exact ⟨_,rfl⟩)) Tryz.func308 (by kernel_rfl) (by kernel_rfl)
def Zvd:Entry:=⟨aV (rCo (rX .unq 2 Zd) (rCo rI (Zb q20))),qV q20,fun (x:(List Want)×Int×(List Want))=>ZeG x.1 x.2.1 x.2.2⟩
theorem ZGL:Ok gG 263 Zvd:=Zsa (R:=Zd) Zkn (t:=42) (e:=127) (k:=2) rfl rfl ZGo (fun x a ha=>by simp [Zd,RT.map,rCo,Zb,rI,rB] at ha;first |exact ⟨_,ha⟩ | (rcases ha with rfl |rfl <;> exact ⟨_,rfl⟩) | (rcases ha with rfl |rfl |rfl <;> exact ⟨_,rfl⟩)) Tryz.func263 (by kernel_rfl) (by kernel_rfl)
def Zve:Entry:=⟨aV (rCo q15 q27),qV rS,fun (x:(List ByteArray)×ByteArray)=>ZbS x.1 x.2⟩
theorem ZGM:Ok gG 269 Zve:=ZBH ZGz ZGA rfl Tryz.func269 (by kernel_rfl) (by kernel_rfl)
def Zvf:Entry:=⟨aV q27,qV q18,fun (x:ByteArray)=>Zht x⟩
theorem ZGN:Ok gG 24 Zvf:=mkA Tryz.func24 [] [] {tk:= [(1,1),(9,0),(9,3),(9,4),(11,0),(11,1)],lv:= [(4,⟨[0,3,4,5],[],[],pV (rCo rS (rCo q18 (rCo rS q9))),[]⟩)]} trivial
def ZcE:Entry:=⟨aV (Zb q7),qV q14,fun (x:Control)=>VK x⟩
theorem ZdV:Ok gG 65 ZcE:=mkA Tryz.func65 [] [] {tk:= [(1,12),(1,13)]} trivial
def Zf3:Entry:=⟨aV (Zb q8),qV q23,fun (x:List Note)=>ZaM x⟩
theorem Zko:Ok gG 66 Zf3:=mkA Tryz.func66 [] [(134,(Zg .shr))] {tk:= [(1,1),(5,0),(5,18),(5,19),(5,20),(5,21),(6,0),(6,1)],lv:= [(3,⟨[0,3,4],[],[],pV (rCo q8 (rCo q23 q9)),[]⟩)]} trivial
def Q3:Entry:=⟨aV q28,qV q17,fun (x:Town)=>Yx x⟩
theorem Vw:Ok gG 25 Q3:=mkA Tryz.func25 [((65,0),ZcE),((66,0),Zf3)] [] {tk:= [(1,26),(1,27)]} ⟨ZdV,Zko,trivial⟩
def Y5:Entry:=⟨aV q21,qV rB,fun (x:Int×Int×Int)=>Yh x.1 x.2.1 x.2.2⟩
theorem Xc:Ok gG 70 Y5:=mkA Tryz.func70 [] [] {} trivial
def ZdW:Entry:=⟨aV q31,qV rB,fun (x:Path)=>KH x⟩
theorem Zf4:Ok gG 133 ZdW:=mkA Tryz.func133 [((70,0),Y5)] [] {} ⟨Xc,trivial⟩
def Zaa:Entry:=⟨aV q9,qV rS,fun (x:Int)=>XA x⟩
theorem Zbp:Ok gG 139 Zaa:=mkA Tryz.func139 [] [] {lv:= [(5,⟨[0,3,4],[],[],pV (rCo rI (rCo rS q9)),[]⟩)]} trivial
def ZoW:Entry:=⟨aV q31,qV rS,fun (x:Path)=>ZeH x⟩
theorem Zvg:Ok gG 134 ZoW:=mkA Tryz.func134 [((133,0),ZdW),((139,0),Zaa)] [(9,sR)] {} ⟨Zf4,Zbp,trivial⟩
def Zvh:Entry:=⟨aV q27,qV (rTu (rCo (rAg Zi) q16)),fun (x:ByteArray)=>Zhu x⟩
theorem ZGO:Ok gG 67 Zvh:=mkA Tryz.func67 [((133,0),ZdW),((134,0),ZoW)] [] {lv:= [(2,⟨[0,4],[(2,2,false)],[(2,4,false,false)],pVO (rCo rS q9) (Yu Zi),[]⟩),(5,⟨[0,4,5],[(2,2,false)],[(2,4,false,false)],pVO (rCo rS q3) (Yu Zi),[]⟩),(8,⟨[0,4,5,6],[(2,2,false)],[(2,4,false,false)],pVO (rCo rS q21) (Yu Zi),[]⟩)]} ⟨Zf4,Zvg,trivial⟩
def Ju:Entry:=⟨aV q32,qV rB,fun (x:List Path)=>QP x⟩
theorem Kp:Ok gG 214 Ju:=mkA Tryz.func214 [((133,0),ZdW)] [(106,Zi)] {lv:= [(2,⟨[0,3],[],[],pV (rCo q2 q9),[]⟩)]} ⟨Zf4,trivial⟩
def V5:Entry:=⟨aV (rCo q4 q9),qV rB,fun (x:(List Int)×Int)=>Xo x.1 x.2⟩
theorem Jv:Ok gG 215 V5:=mkA Tryz.func215 [] [(3,iR)] {lv:= [(2,⟨[0,1,5],[],[],pV q35,[]⟩)]} trivial
def Qi:Entry:=⟨aV (rCo q2 q9),qV rI,fun (x:(List Path)×Int)=>YR x.1 x.2⟩
theorem QK:Ok gG 145 Qi:=mkA Tryz.func145 [] [(106,Zi)] {lv:= [(2,⟨[0,1,5],[],[],pV q24,[]⟩)]} trivial
def Zvi:Entry:=⟨aV q9,qV rI,fun (x:Int)=>Zc8 x⟩
theorem ZGP:Ok gG 248 Zvi:=mkA Tryz.func248 [((70,0),Y5)] [] {} ⟨Xc,trivial⟩
def Zvj:Entry:=⟨aV q9,qV rI,fun (x:Int)=>Zc9 x⟩
theorem ZGQ:Ok gG 249 Zvj:=mkA Tryz.func249 [((70,0),Y5)] [] {} ⟨Xc,trivial⟩
def Zvk:Entry:=⟨aV (rCo rI q21),qV rB,fun (x:Int×Int×Int×Int)=>ZeI x.1 x.2.1 x.2.2.1 x.2.2.2⟩
theorem ZGR:Ok gG 247 Zvk:=mkA Tryz.func247 [((70,0),Y5)] [(3,iR)] {tk:= [(1,5)],lv:= [(3,⟨[0,1,2,3,9,10],[],[],pV (rCo rI (rCo rI (rCo rI (rCo rI q34)))),[]⟩),(6,⟨[0,1,2,3,9,10,11],[],[],pV (rCo rI (rCo rI (rCo rI (rCo rI (rCo q6 q3))))),[]⟩),(14,⟨[1,2,3,12,13],[],[],pV (rCo rI (rCo rI q21)),[]⟩)]} ⟨Xc,trivial⟩
def ZdX:Entry:=⟨aV (rCo (rAg Zi) q31),qV rB,fun (x:Path×Path)=>KI x.1 x.2⟩
theorem Zf5:Ok gG 166 ZdX:=mkA Tryz.func166 [((133,0),ZdW),((248,0),Zvi),((249,0),Zvj),((247,0),Zvk)] [] {} ⟨Zf4,ZGP,ZGQ,ZGR,trivial⟩
def Zab:Entry:=⟨aV (rCo q2 q12),qV rB,fun (x:(List Path)×(List Int))=>Qy x.1 x.2⟩
theorem Zbq:Ok gG 289 Zab:=mkA Tryz.func289 [((145,0),Qi),((166,0),ZdX),((214,0),Ju)] [(3,iR),(106,Zi)] {lv:= [(2,⟨[0,1,5],[],[],pV (rCo q2 (rCo q4 q9)),[]⟩),(8,⟨[0,1,5,6,7],[],[],pV (rCo q2 (rCo q4 q21)),[]⟩)]} ⟨QK,Zf5,Kp,trivial⟩
def Zkp:Entry:=⟨aV (rCo q4 q9),qV q6,fun (x:(List Int)×Int)=>Zda x.1 x.2⟩
theorem ZoX:Ok gG 217 Zkp:=mkA Tryz.func217 [] [(3,iR)] {tk:= [(5,3),(6,7),(6,12)],lv:= [(2,⟨[0,1,5],[],[],pV q35,[]⟩)]} trivial
def Zkq:Entry:=⟨aV (rCo q2 q12),qV q6,fun (x:(List Path)×(List Int))=>Zdb x.1 x.2⟩
theorem ZoY:Ok gG 216 Zkq:=mkA Tryz.func216 [((289,0),Zab),((217,0),Zkp)] [(106,Zi)] {tk:= [(1,3),(5,7),(7,0),(7,1),(8,0),(8,1)],lv:= [(3,⟨[0,1,5,6],[],[],pV (rCo q2 (rCo q4 q34)),[]⟩)]} ⟨Zbq,ZoX,trivial⟩
def ZoZ:Entry:=⟨aV q32,qV (rX .own 1 q12),fun (x:List Path)=>ZeJ x⟩
theorem Zvl:Ok gG 135 ZoZ:=mkA Tryz.func135 [((214,0),Ju),((215,0),V5),((216,0),Zkq),((217,0),Zkp)] [(3,iR),(106,Zi)] {tk:= [(1,1),(2,1),(7,8),(8,0),(8,3),(8,4),(12,0),(12,6),(13,0),(13,1)],lv:= [(4,⟨[0,3,4,5],[],[],pV (rCo q2 (rCo (rX .own 1 q12) q34)),[]⟩),(10,⟨[0,3,4,5,6,7],[],[],pV (rCo q2 (rCo (rX .own 1 q12) (rCo q6 (rCo rI q34)))),[]⟩)]} ⟨Kp,Jv,ZoY,ZoX,trivial⟩
def Zvm:Entry:=⟨aV (rCo q4 q12),qV q6,fun (x:(List Int)×(List Int))=>ZeK x.1 x.2⟩
theorem ZGS:Ok gG 334 Zvm:=mkA Tryz.func334 [((215,0),V5)] [(3,iR)] {tk:= [(1,1),(6,0),(6,6),(6,7),(7,0),(7,1)],lv:= [(3,⟨[0,1,5,6],[],[],pV (rCo q4 (rCo q4 q34)),[]⟩)]} ⟨Jv,trivial⟩
def Zkr:Entry:=⟨aV q31,qV rI,fun (x:Path)=>ZbT x⟩
theorem Zo0:Ok gG 335 Zkr:=mkA Tryz.func335 [((133,0),ZdW)] [(3,iR)] {} ⟨Zf4,trivial⟩
def Zks:Entry:=⟨aV q3,qV rI,fun (x:Int×Int)=>ZbU x.1 x.2⟩
theorem Zo1:Ok gG 243 Zks:=mkA Tryz.func243 [] [] {} trivial
def Zf6:Entry:=⟨aV (rCo q2 (rCo q4 q12)),qV rI,fun (x:(List Path)×(List Int)×(List Int))=>ZbV x.1 x.2.1 x.2.2⟩
theorem Zkt:Ok gG 291 Zf6:=mkA Tryz.func291 [((334,0),Zvm),((289,0),Zab),((145,0),Qi),((166,0),ZdX),((335,0),Zkr),((243,0),Zks)] [(3,iR),(106,Zi)] {tk:= [(2,3),(3,3)],lv:= [(5,⟨[0,1,2,7,8,9,10],[],[],pV (rCo q2 (rCo q4 (rCo q4 (rCo rI (rCo q6 q34))))),[]⟩),(8,⟨[0,1,2,7,8,9,10,11],[],[],pV (rCo q2 (rCo q4 (rCo q4 (rCo rI (rCo q6 (rCo q6 q3)))))),[]⟩)]} ⟨ZGS,Zbq,QK,Zf5,Zo0,Zo1,trivial⟩
def Jw:Entry:=⟨aV q25,qV rB,fun (x:(List Path)×Control)=>QQ x.1 x.2⟩
theorem Kq:Ok gG 221 Jw:=mkA Tryz.func221 [((289,0),Zab),((70,0),Y5),((291,0),Zf6)] [] {} ⟨Zbq,Xc,Zkt,trivial⟩
def Zf7:Entry:=⟨aV q25,qV q6,fun (x:(List Path)×Control)=>ZaN x.1 x.2⟩
theorem Zku:Ok gG 137 Zf7:=mkA Tryz.func137 [((221,0),Jw),((215,0),V5)] [(106,Zi)] {tk:= [(1,1),(10,0),(10,3),(10,4),(11,0),(11,1)],lv:= [(3,⟨[0,5,6],[(3,3,false)],[(3,4,false,false)],pVO (rCo q2 q34) (Yu (Qv .shr .shr)),[]⟩)]} ⟨Kq,Jv,trivial⟩
def Zvn:Entry:=⟨aV (Zb q8),qV rI,fun (x:List Note)=>Zhv x⟩
theorem ZGT:Ok gG 219 Zvn:=mkA Tryz.func219 [] [(134,(Zg .shr))] {} trivial
def Zvo:Entry:=⟨aV q3,qV rI,fun (x:Int×Int)=>Zhw x.1 x.2⟩
theorem ZGU:Ok gG 333 Zvo:=mkA Tryz.func333 [((70,0),Y5)] [] {} ⟨Xc,trivial⟩
def Zvp:Entry:=⟨aV q12,qV rI,fun (x:List Int)=>Zhx x⟩
theorem ZGV:Ok gG 290 Zvp:=mkA Tryz.func290 [((333,0),Zvo)] [(3,iR)] {lv:= [(3,⟨[0,3,4],[],[],pV q35,[]⟩)]} ⟨ZGU,trivial⟩
def Zo2:Entry:=⟨aV (rCo rI (rCo rI q12)),qV rI,fun (x:Int×Int×(List Int))=>ZeL x.1 x.2.1 x.2.2⟩
theorem Zvq:Ok gG 218 Zo2:=mkA Tryz.func218 [((290,0),Zvp)] [] {} ⟨ZGV,trivial⟩
def ZdY:Entry:=⟨aV (Zb q8),qV rB,fun (x:List Note)=>ZaO x⟩
theorem Zf8:Ok gG 220 ZdY:=mkA Tryz.func220 [((218,0),Zo2),((70,0),Y5)] [(3,iR),(134,(Zg .shr))] {lv:= [(3,⟨[0,3,4],[],[],pV (rCo q8 q3),[]⟩),(9,⟨[0,3,4,5],[],[],pV (rCo q8 q21),[]⟩)]} ⟨Zvq,Xc,trivial⟩
def Zkv:Entry:=⟨aV (rCo q8 (rCo rI q12)),qV (rTu (rCo q23 q16)),fun (x:(List Note)×Int×(List Int))=>JQ x.1 x.2.1 x.2.2⟩
theorem Zo3:Ok gG 136 Zkv:=mkA Tryz.func136 [((66,0),Zf3),((219,0),Zvn),((218,0),Zo2),((220,0),ZdY)] [] {tk:= [(1,11),(1,12),(1,13),(1,14),(3,2),(4,0),(4,1)]} ⟨Zko,ZGT,Zvq,Zf8,trivial⟩
def ZdZ:Entry:=⟨aV (rCo q2 (Zb q11)),qV rB,fun (x:(List Path)×(List Want))=>JR x.1 x.2⟩
theorem Zf9:Ok gG 222 ZdZ:=mkA Tryz.func222 [((145,0),Qi),((70,0),Y5),((214,0),Ju)] [(127,Zd)] {lv:= [(2,⟨[0,1,5],[],[],pV (rCo q2 (rCo q11 q9)),[]⟩)]} ⟨QK,Xc,Kp,trivial⟩
def Zga:Entry:=⟨aV (rCo q2 q30),qV rB,fun (x:(List Path)×Prio)=>ZaP x.1 x.2⟩
theorem Zkw:Ok gG 223 Zga:=mkA Tryz.func223 [((214,0),Ju),((145,0),Qi),((70,0),Y5)] [(106,Zi)] {} ⟨Kp,QK,Xc,trivial⟩
def Zo4:Entry:=⟨aV (rCo q2 (Zb q13)),qV rB,fun (x:(List Path)×(List Lamp))=>ZeM x.1 x.2⟩
theorem Zvr:Ok gG 224 Zo4:=mkA Tryz.func224 [((145,0),Qi),((70,0),Y5),((214,0),Ju)] [(131,Zu)] {lv:= [(2,⟨[0,1,5],[],[],pV (rCo q2 (rCo q13 q9)),[]⟩),(7,⟨[0,1,5,6],[],[],pV (rCo q2 (rCo q13 q3)),[]⟩)]} ⟨QK,Xc,Kp,trivial⟩
def Zo5:Entry:=⟨aV (rCo q2 q12),qV rB,fun (x:(List Path)×(List Int))=>ZeN x.1 x.2⟩
theorem Zvs:Ok gG 292 Zo5:=mkA Tryz.func292 [((214,0),Ju),((70,0),Y5),((166,0),ZdX)] [(3,iR),(106,Zi)] {lv:= [(4,⟨[0,1,5],[],[],pV (rCo q2 (rCo q4 q9)),[]⟩),(9,⟨[0,1,5,6],[],[],pV (rCo q2 q35),[]⟩)]} ⟨Kp,Xc,Zf5,trivial⟩
def Zvt:Entry:=⟨aV (rCo q2 (Zb q8)),qV rI,fun (x:(List Path)×(List Note))=>Zhy x.1 x.2⟩
theorem ZGW:Ok gG 225 Zvt:=mkA Tryz.func225 [((220,0),ZdY),((292,0),Zo5)] [(134,(Zg .shr))] {lv:= [(2,⟨[0,1,5],[],[],pV (rCo q2 (rCo q8 q9)),[]⟩)]} ⟨Zf8,Zvs,trivial⟩
def Zac:Entry:=⟨aV q28,qV rB,fun (x:Town)=>VL x⟩
theorem Zbr:Ok gG 138 Zac:=mkA Tryz.func138 [((221,0),Jw),((222,0),ZdZ),((223,0),Zga),((224,0),Zo4),((220,0),ZdY),((225,0),Zvt),((70,0),Y5)] [(134,(Zg .shr))] {} ⟨Kq,Zf9,Zkw,Zvr,Zf8,ZGW,Xc,trivial⟩
def Zvu:Entry:=⟨aV q32,qV (rTu q5),fun (x:List Path)=>Zhz x⟩
theorem ZGX:Ok gG 68 Zvu:=mkA Tryz.func68 [((135,0),ZoZ),((25,0),Q3),((137,0),Zf7),((136,0),Zkv),((138,0),Zac)] [(29,q12)] {tk:= [(1,2),(3,1),(4,1),(4,5),(4,8),(5,5),(5,6),(5,9),(7,1),(8,1)],mo:= [(8,0)]} ⟨Zvl,Vw,Zku,Zo3,Zbr,trivial⟩
def Zo6:Entry:=⟨aV (rCo q1 (rCo q1 q16)),qV (rTu (rCo q1 q27)),fun (x:Town×Town×Bool)=>Zdc x.1 x.2.1 x.2.2⟩
theorem Zvv:Ok gG 30 Zo6:=mkA Tryz.func30 [((25,0),Q3)] [] {tk:= [(2,2)]} ⟨Vw,trivial⟩
def Zvw:Entry:=⟨aV (rCo q1 (Zb q15)),qV (rTu (rCo q1 q27)),fun (x:Town×(List ByteArray))=>ZhA x.1 x.2⟩
theorem ZGY:Ok gG 26 Zvw:=mkA Tryz.func26 [((67,0),Zvh),((25,0),Q3),((68,0),Zvu),((30,0),Zo6)] [(9,sR)] {tk:= [(1,1),(7,2),(8,0),(8,3),(8,4),(10,2),(11,0),(11,2),(11,3),(11,6)],mo:= [(12,1)],lv:= [(3,⟨[1,6,7],[(2,2,false),(4,4,false)],[(2,13,false,false),(4,13,false,false)],pVO (rCo q15 (rCo (rX .own 4 Zi) q9)) (XO (Ys .shr .shr .shr .shr .shr .shr .shr) (Yu (Ys .own .own .own .own .own .own .own))),[]⟩)]} ⟨ZGO,Vw,ZGX,Zvv,trivial⟩
def Zvx:Entry:=⟨aV q27,qV (rTu (rCo rI q16)),fun (x:ByteArray)=>ZhB x⟩
theorem ZGZ:Ok gG 69 Zvx:=mkA Tryz.func69 [((70,0),Y5),((139,0),Zaa)] [] {lv:= [(5,⟨[0,4,5],[],[],pV (rCo rS q3),[]⟩)]} ⟨Xc,Zbp,trivial⟩
def Zvy:Entry:=⟨aV (Zb q15),qV (rTu (rCo q6 q16)),fun (x:List ByteArray)=>ZhC x⟩
theorem ZG0:Ok gG 27 Zvy:=mkA Tryz.func27 [((69,0),Zvx)] [(9,sR)] {tk:= [(1,1),(7,0),(7,1),(8,0),(8,3),(8,4),(9,0),(9,1)],lv:= [(3,⟨[0,4,5],[],[],pV (rCo q15 q34),[]⟩)]} ⟨ZGZ,trivial⟩
def Zvz:Entry:=⟨aV (rCo rS q12),qV (rAg Zc2),fun (x:ByteArray×(List Int))=>ZeP x.1 x.2⟩
theorem ZG1:Ok gG 28 Zvz:=mkA Tryz.func28 [((70,0),Y5)] [(3,iR)] {} ⟨Xc,trivial⟩
def ZvA:Entry:=⟨aV (rCo q2 (rCo q11 q9)),qV (rTu (rCo q20 q16)),fun (x:(List Path)×(List Want)×Int)=>ZhD x.1 x.2.1 x.2.2⟩
theorem ZG2:Ok gG 140 ZvA:=mkA Tryz.func140 [((222,0),ZdZ)] [(127,Zd)] {tk:= [(4,8),(4,13),(6,3),(7,0),(7,1)],lv:= [(2,⟨[0,1,2,8],[],[],pV (rCo q2 (rCo q11 q3)),[]⟩)]} ⟨Zf9,trivial⟩
def ZcF:Entry:=⟨aV (rCo q1 q5),qV (rTu q5),fun (x:Town×Town×Bool)=>Qz x.1 x.2.1 x.2.2⟩
theorem Zd0:Ok gG 141 ZcF:=mkA Tryz.func141 [((138,0),Zac),((25,0),Q3)] [] {tk:= [(0,1),(2,2),(3,1)],mo:= [(3,0)]} ⟨Zbr,Vw,trivial⟩
def ZvB:Entry:=⟨aV (rCo q1 q9),qV (rTu q5),fun (x:Town×Int)=>ZhE x.1 x.2⟩
theorem ZG3:Ok gG 71 ZvB:=mkA Tryz.func71 [((25,0),Q3),((140,0),ZvA),((141,0),ZcF)] [] {tk:= [(1,3),(2,6),(2,7),(2,9),(3,0),(3,2),(4,3),(4,4),(4,6)],mo:= [(4,1)]} ⟨Vw,ZG2,Zd0,trivial⟩
def ZvC:Entry:=⟨aV (rCo q2 (rCo (rAg ZaC) q9)),qV (rTu (rCo (rAg ZaC) q16)),fun (x:(List Path)×Prio×Int)=>ZhF x.1 x.2.1 x.2.2⟩
theorem ZG4:Ok gG 142 ZvC:=mkA Tryz.func142 [((223,0),Zga)] [] {} ⟨Zkw,trivial⟩
def ZvD:Entry:=⟨aV (rCo q1 q9),qV (rTu q5),fun (x:Town×Int)=>ZhG x.1 x.2⟩
theorem ZG5:Ok gG 72 ZvD:=mkA Tryz.func72 [((25,0),Q3),((142,0),ZvC),((141,0),ZcF)] [] {tk:= [(1,3),(4,3),(4,4),(4,6)],mo:= [(4,1)]} ⟨Vw,ZG4,Zd0,trivial⟩
def ZvE:Entry:=⟨aV (rCo q2 (rCo q13 q16)),qV rI,fun (x:(List Path)×(List Lamp)×Bool)=>ZhH x.1 x.2.1 x.2.2⟩
theorem ZG6:Ok gG 229 ZvE:=mkA Tryz.func229 [((224,0),Zo4)] [(131,Zu)] {lv:= [(4,⟨[0,1,7],[],[],pV (rCo q2 (rCo q13 q9)),[]⟩)]} ⟨Zvr,trivial⟩
def Zd1:Entry:=⟨aV q28,qV rI,fun (x:Town)=>QR x⟩
theorem Zgb:Ok gG 146 Zd1:=mkA Tryz.func146 [((229,0),ZvE)] [] {} ⟨ZG6,trivial⟩
def Zo7:Entry:=⟨aV (rCo q1 q9),qV q6,fun (x:Town×Int)=>ZeQ x.1 x.2⟩
theorem ZvF:Ok gG 233 Zo7:=mkA Tryz.func233 [] [] {tk:= [(1,1),(5,0),(5,3),(5,4),(6,0),(6,1)],lv:= [(3,⟨[1,5,6],[(2,2,false)],[(2,13,false,false)],pVO (rCo rI q34) (Yu (Ys .shr .shr .shr .shr .shr .shr .shr)),[]⟩)]} trivial
def Zd2:Entry:=⟨aV q28,qV q6,fun (x:Town)=>ZaQ x⟩
theorem Zgc:Ok gG 150 Zd2:=mkA Tryz.func150 [((146,0),Zd1),((137,0),Zf7),((233,0),Zo7)] [] {tk:= [(2,5),(3,2)]} ⟨Zgb,Zku,ZvF,trivial⟩
def Zkx:Entry:=⟨aV (rCo q4 q12),qV rB,fun (x:(List Int)×(List Int))=>Zdd x.1 x.2⟩
theorem Zo8:Ok gG 293 Zkx:=mkA Tryz.func293 [] [(3,iR)] {lv:= [(4,⟨[0,1,5],[],[],pV (rCo q4 (rCo q4 q9)),[]⟩)]} trivial
def ZvG:Entry:=⟨aV (rCo q8 (rCo rI q12)),qV (rTu (rCo q23 q16)),fun (x:(List Note)×Int×(List Int))=>ZbW x.1 x.2.1 x.2.2⟩
theorem ZG7:Ok gG 226 ZvG:=mkA Tryz.func226 [((293,0),Zkx),((136,0),Zkv),((66,0),Zf3),((220,0),ZdY),((70,0),Y5)] [(134,(Zg .shr))] {tk:= [(2,4),(2,6),(3,19)]} ⟨Zo8,Zo3,Zko,Zf8,Xc,trivial⟩
def Zd3:Entry:=⟨aV q3,qV rI,fun (x:Int×Int)=>VM x.1 x.2⟩
theorem Zgd:Ok gG 227 Zd3:=mkA Tryz.func227 [] [] {} trivial
def Zge:Entry:=⟨aV (Zb q17),qV q17,fun (x:Town)=>QS x⟩
theorem Zky:Ok gG 143 Zge:=mkA Tryz.func143 [((150,0),Zd2),((66,0),Zf3),((226,0),ZvG),((136,0),Zkv),((227,0),Zd3)] [(134,(Zg .shr))] {tk:= [(0,0),(2,2),(4,6),(5,5),(5,6),(5,8),(7,2),(7,4),(7,5),(7,7),(9,0),(9,2),(10,1)],mo:= [(10,0)]} ⟨Zgc,Zko,ZG7,Zo3,Zgd,trivial⟩
def ZvH:Entry:=⟨aV (rCo q1 (rCo rI (rCo rI q16))),qV (rTu q5),fun (x:Town×Int×Int×Bool)=>ZhI x.1 x.2.1 x.2.2.1 x.2.2.2⟩
theorem ZG8:Ok gG 73 ZvH:=mkA Tryz.func73 [((138,0),Zac),((25,0),Q3),((143,0),Zge),((141,0),ZcF)] [(131,Zu)] {tk:= [(2,2),(3,3),(12,7),(12,9),(13,2),(13,3),(13,4),(13,6)],hb:= [((3,1),2),((6,2),1),((6,3),7),((8,1),1),((8,3),8),((8,4),9),((8,5),10),((8,10),1),((8,12),8),((8,13),9),((8,14),10),((9,1),1),((9,4),8),((9,5),9),((9,6),11),((12,1),12),((13,1),12)],ao:= [13],rt:= [((3,1),(rAg (Ys .unq .unq .unq .unq .unq .unq .unq)))],lv:= [(6,⟨[1,2,3,11,12],[(4,4,false),(8,8,false),(10,10,false)],[(4,13,false,false),(8,13,false,false),(10,13,false,false)],pVO (rCo rI (rCo rI (rCo rB (rCo rB q9)))) (XO (Ys .shr .shr .shr .shr .shr .shr .shr) (XO (Ys .own .own .own .own .own .own .own) (Yu (Ys .unq .unq .unq .unq .unq .unq .unq)))),[]⟩)]} ⟨Zbr,Vw,Zky,Zd0,trivial⟩
def ZvI:Entry:=⟨aV (rCo q1 q16),qV (rTu q5),fun (x:Town×Bool)=>ZhJ x.1 x.2⟩
theorem ZG9:Ok gG 74 ZvI:=mkA Tryz.func74 [((25,0),Q3),((138,0),Zac),((143,0),Zge),((141,0),ZcF)] [] {tk:= [(1,3),(3,1),(5,2),(5,3),(5,4),(5,6)],mo:= [(3,0),(5,1)],ao:= [5]} ⟨Vw,Zbr,Zky,Zd0,trivial⟩
def Zkz:Entry:=⟨aV q25,qV q14,fun (x:(List Path)×Control)=>Zde x.1 x.2⟩
theorem Zo9:Ok gG 231 Zkz:=mkA Tryz.func231 [((65,0),ZcE),((221,0),Jw),((227,0),Zd3)] [] {tk:= [(1,3),(3,1),(6,1),(9,2),(9,3),(10,1)],mo:= [(3,0),(6,0),(9,1),(10,0)]} ⟨ZdV,Kq,Zgd,trivial⟩
def Zgf:Entry:=⟨aV (rCo q2 q12),qV rI,fun (x:(List Path)×(List Int))=>ZbX x.1 x.2⟩
theorem ZkA:Ok gG 235 Zgf:=mkA Tryz.func235 [((145,0),Qi)] [(3,iR),(106,Zi)] {lv:= [(2,⟨[0,1,5],[],[],pV (rCo q2 (rCo q4 q9)),[]⟩)]} ⟨QK,trivial⟩
def ZkB:Entry:=⟨aV q25,qV rB,fun (x:(List Path)×Control)=>ZbY x.1 x.2⟩
theorem Zpa:Ok gG 338 ZkB:=mkA Tryz.func338 [((221,0),Jw),((235,0),Zgf)] [] {} ⟨Kq,ZkA,trivial⟩
def ZvJ:Entry:=⟨aV (rCo q11 q12),qV rI,fun (x:(List Want)×(List Int))=>ZhK x.1 x.2⟩
theorem ZHa:Ok gG 372 ZvJ:=mkA Tryz.func372 [((215,0),V5)] [(127,Zd)] {lv:= [(3,⟨[0,1,5,6],[],[],pV (rCo q11 q35),[]⟩)]} ⟨Jv,trivial⟩
def Zpb:Entry:=⟨aV q19,qV q6,fun (x:(List Path)×Control×(List Want))=>ZeR x.1 x.2.1 x.2.2⟩
theorem ZvK:Ok gG 337 Zpb:=mkA Tryz.func337 [((372,0),ZvJ),((221,0),Jw),((222,0),ZdZ),((216,0),Zkq)] [] {tk:= [(3,1),(4,4)]} ⟨ZHa,Kq,Zf9,ZoY,trivial⟩
def ZvL:Entry:=⟨aV q19,qV rB,fun (x:(List Path)×Control×(List Want))=>ZhL x.1 x.2.1 x.2.2⟩
theorem ZHb:Ok gG 336 ZvL:=mkA Tryz.func336 [((215,0),V5),((338,0),ZkB),((337,0),Zpb)] [(127,Zd)] {lv:= [(3,⟨[0,2,7,8],[(4,4,false)],[(4,4,false,false)],pVO (rCo q2 (rCo q11 (rCo rB q9))) (Yu (Qv .shr .shr)),[]⟩)]} ⟨Jv,Zpa,ZvK,trivial⟩
def Zpc:Entry:=⟨aV (rCo q2 (rCo q7 q12)),qV (rTu (rCo q14 q16)),fun (x:(List Path)×Control×(List Int))=>ZeS x.1 x.2.1 x.2.2⟩
theorem ZvM:Ok gG 296 Zpc:=mkA Tryz.func296 [((65,0),ZcE),((338,0),ZkB),((289,0),Zab),((293,0),Zkx),((291,0),Zf6)] [] {tk:= [(1,3),(3,1),(6,3),(6,4),(7,4),(9,1)],mo:= [(3,0),(9,0)]} ⟨ZdV,Zpa,Zbq,Zo8,Zkt,trivial⟩
def ZvN:Entry:=⟨aV q19,qV (rTu (rCo q14 (Zb q20))),fun (x:(List Path)×Control×(List Want))=>ZhM x.1 x.2.1 x.2.2⟩
theorem ZHc:Ok gG 294 ZvN:=mkA Tryz.func294 [((221,0),Jw),((222,0),ZdZ),((65,0),ZcE),((231,0),Zkz),((336,0),ZvL),((337,0),Zpb),((296,0),Zpc),((137,0),Zf7),((145,0),Qi),((227,0),Zd3)] [(3,iR),(127,Zd)] {tk:= [(1,1),(3,2),(3,5),(3,6),(4,4),(6,7),(6,8),(6,10),(7,3),(12,0),(12,15),(12,16),(13,1),(13,2),(13,3)],mo:= [(13,0)],lv:= [(9,⟨[0,2,8,10,11],[(6,6,false),(9,9,false)],[(6,4,false,false),(9,4,false,false)],pVO (rCo q2 (rCo q11 (rCo q20 q34))) (XO (Qv .own .own) (Yu (Qv .own .own))),[]⟩)]} ⟨Kq,Zf9,ZdV,Zo9,ZHb,ZvK,ZvM,Zku,QK,Zgd,trivial⟩
def ZvO:Entry:=⟨aV (rCo q2 (rCo q7 q30)),qV rS,fun (x:(List Path)×Control×Prio)=>ZhN x.1 x.2.1 x.2.2⟩
theorem ZHd:Ok gG 295 ZvO:=mkA Tryz.func295 [((221,0),Jw),((223,0),Zga),((215,0),V5),((338,0),ZkB)] [] {} ⟨Kq,Zkw,Jv,Zpa,trivial⟩
def Zpd:Entry:=⟨aV q19,qV q20,fun (x:(List Path)×Control×(List Want))=>Zdf x.1 x.2.1 x.2.2⟩
theorem ZvP:Ok gG 148 Zpd:=mkA Tryz.func148 [((137,0),Zf7),((145,0),Qi),((227,0),Zd3)] [(3,iR),(127,Zd)] {tk:= [(1,1),(2,3),(7,0),(7,15),(7,16),(8,0),(8,1)],lv:= [(4,⟨[0,2,7,8,9],[],[],pV (rCo q2 (rCo q11 (rCo q20 q34))),[]⟩)]} ⟨Zku,QK,Zgd,trivial⟩
def ZvQ:Entry:=⟨aV (rCo q2 (rCo q7 (rCo q11 q30))),qV (rTu (rCo q14 (rCo q20 q30))),fun (x:(List Path)×Control×(List Want)×Prio)=>ZhO x.1 x.2.1 x.2.2.1 x.2.2.2⟩
theorem ZHe:Ok gG 228 ZvQ:=mkA Tryz.func228 [((221,0),Jw),((222,0),ZdZ),((223,0),Zga),((65,0),ZcE),((294,0),ZvN),((295,0),ZvO),((231,0),Zkz),((148,0),Zpd),((216,0),Zkq),((296,0),Zpc)] [] {tk:= [(2,6),(2,7),(3,4),(3,5),(3,6),(3,8),(3,9),(6,3),(7,4),(9,8),(9,9),(9,11),(10,4),(12,1),(12,9),(13,1),(13,3),(13,4)],mo:= [(13,0)],hb:= [((12,0),1),((12,8),6)]} ⟨Kq,Zf9,Zkw,ZdV,ZHc,ZHd,Zo9,ZvP,ZoY,ZvM,trivial⟩
def ZvR:Entry:=⟨aV q28,qV (rTu q5),fun (x:Town)=>ZhP x⟩
theorem ZHf:Ok gG 144 ZvR:=mkA Tryz.func144 [((138,0),Zac),((25,0),Q3),((146,0),Zd1),((228,0),ZvQ),((143,0),Zge),((141,0),ZcF)] [] {tk:= [(2,2),(3,3),(6,9),(6,10),(6,11),(6,15),(6,16),(7,2),(8,0),(8,2),(10,2),(10,3),(10,4),(10,6)],mo:= [(7,0),(10,1)],ao:= [10]} ⟨Zbr,Vw,Zgb,ZHe,Zky,Zd0,trivial⟩
def ZvS:Entry:=⟨aV (rCo q1 q9),qV (rTu q5),fun (x:Town×Int)=>ZhQ x.1 x.2⟩
theorem ZHg:Ok gG 75 ZvS:=mkA Tryz.func75 [((25,0),Q3),((70,0),Y5),((144,0),ZvR)] [] {tk:= [(1,3),(3,1),(7,2),(7,3),(7,6),(9,2),(10,1),(11,1)],mo:= [(3,0),(10,0),(11,0)],lv:= [(5,⟨[1,7],[(2,2,false),(4,4,false),(6,6,false)],[(2,13,false,false),(4,13,false,false),(6,13,false,false)],pVO q3 (XO (Ys .shr .shr .shr .shr .shr .shr .shr) (XO (Ys .own .own .own .own .own .own .own) (Yu (Ys .own .own .own .own .own .own .own)))),[]⟩)]} ⟨Vw,Xc,ZHf,trivial⟩
def ZvT:Entry:=⟨aV q25,qV rB,fun (x:(List Path)×Control)=>ZhR x.1 x.2⟩
theorem ZHh:Ok gG 297 ZvT:=mkA Tryz.func297 [((235,0),Zgf),((221,0),Jw)] [] {} ⟨ZkA,Kq,trivial⟩
def ZvU:Entry:=⟨aV q36,qV (rTu (rCo q14 q16)),fun (x:(List Path)×Control×Int)=>ZhS x.1 x.2.1 x.2.2⟩
theorem ZHi:Ok gG 230 ZvU:=mkA Tryz.func230 [((65,0),ZcE),((145,0),Qi),((297,0),ZvT),((215,0),V5),((291,0),Zf6)] [(106,Zi)] {tk:= [(1,3),(4,1),(7,2),(7,3),(8,3),(10,1)],mo:= [(4,0),(10,0)]} ⟨ZdV,QK,ZHh,Jv,Zkt,trivial⟩
def Zpe:Entry:=⟨aV q36,qV q14,fun (x:(List Path)×Control×Int)=>ZeT x.1 x.2.1 x.2.2⟩
theorem ZvV:Ok gG 147 Zpe:=mkA Tryz.func147 [((230,0),ZvU),((231,0),Zkz)] [] {tk:= [(1,4),(1,5),(1,8),(3,1),(4,3)],mo:= [(3,0)]} ⟨ZHi,Zo9,trivial⟩
def ZvW:Entry:=⟨aV (rCo q1 q9),qV (rTu q5),fun (x:Town×Int)=>ZhT x.1 x.2⟩
theorem ZHj:Ok gG 76 ZvW:=mkA Tryz.func76 [((145,0),Qi),((138,0),Zac),((25,0),Q3),((146,0),Zd1),((147,0),Zpe),((148,0),Zpd),((143,0),Zge),((141,0),ZcF)] [(106,Zi)] {tk:= [(3,2),(4,3),(7,7),(8,8),(12,2),(12,3),(12,4),(12,6)],mo:= [(12,1)],ao:= [12]} ⟨QK,Zbr,Vw,Zgb,ZvV,ZvP,Zky,Zd0,trivial⟩
def ZvX:Entry:=⟨aV (rCo q1 (Zb (rAg Zc2))),qV (rTu q5),fun (x:Town×Evt)=>ZeU x.1 x.2⟩
theorem ZHk:Ok gG 29 ZvX:=mkA Tryz.func29 [((71,0),ZvB),((72,0),ZvD),((73,0),ZvH),((74,0),ZvI),((75,0),ZvS),((76,0),ZvW),((25,0),Q3)] [] {tk:= [(3,4),(3,6),(5,4),(5,6),(7,8),(7,10),(9,4),(9,6),(11,4),(11,6),(13,4),(13,6),(14,2)]} ⟨ZG3,ZG5,ZG8,ZG9,ZHg,ZHj,Vw,trivial⟩
def Zgg:Entry:=⟨aV (rCo q15 q27),qV rS,fun (x:(List ByteArray)×ByteArray)=>Jb x.1 x.2⟩
theorem ZkC:Ok gG 232 Zgg:=mkA Tryz.func232 [] [(9,sR)] {lv:= [(3,⟨[0,1,5,6],[],[],pV (rCo q15 (rCo rS (rCo rS q9))),[]⟩)]} trivial
def ZkD:Entry:=⟨aV q12,qV rS,fun (x:List Int)=>ZbZ x⟩
theorem Zpf:Ok gG 149 ZkD:=mkA Tryz.func149 [((70,0),Y5),((232,0),Zgg)] [(3,iR)] {tk:= [(1,1),(8,0),(8,3),(8,4),(9,0)],lv:= [(3,⟨[0,3,4],[],[],pV (rCo q4 (rCo q18 q9)),[]⟩)]} ⟨Xc,ZkC,trivial⟩
def ZvY:Entry:=⟨aV (rCo q13 q3),qV rB,fun (x:(List Lamp)×Int×Int)=>ZeV x.1 x.2.1 x.2.2⟩
theorem ZHl:Ok gG 298 ZvY:=mkA Tryz.func298 [] [(131,Zu)] {lv:= [(2,⟨[0,1,2,7],[],[],pV (rCo q13 q21),[]⟩)]} trivial
def ZvZ:Entry:=⟨aV (rCo q2 (rCo q13 q12)),qV q6,fun (x:(List Path)×(List Lamp)×(List Int))=>ZhU x.1 x.2.1 x.2.2⟩
theorem ZHm:Ok gG 234 ZvZ:=mkA Tryz.func234 [((298,0),ZvY)] [(3,iR),(106,Zi)] {tk:= [(1,1),(8,0),(8,3),(8,4),(9,0),(9,1)],lv:= [(3,⟨[0,1,2,7,8],[],[],pV (rCo q2 (rCo q13 (rCo q4 q34))),[]⟩)]} ⟨ZHl,trivial⟩
def Zv0:Entry:=⟨aV q28,qV q6,fun (x:Town)=>ZhV x⟩
theorem ZHn:Ok gG 151 Zv0:=mkA Tryz.func151 [((146,0),Zd1),((150,0),Zd2),((234,0),ZvZ),((233,0),Zo7)] [] {tk:= [(2,7),(3,2)]} ⟨Zgb,Zgc,ZHm,ZvF,trivial⟩
def Zd4:Entry:=⟨aV q12,qV rS,fun (x:List Int)=>JS x⟩
theorem Zgh:Ok gG 156 Zd4:=mkA Tryz.func156 [((139,0),Zaa),((232,0),Zgg)] [(3,iR)] {tk:= [(1,1),(5,0),(5,7),(5,8),(6,0)],lv:= [(3,⟨[0,3,4],[],[],pV (rCo q4 (rCo q18 q9)),[]⟩)]} ⟨Zbp,ZkC,trivial⟩
def Zv1:Entry:=⟨aV (Zb q7),qV rS,fun (x:Control)=>ZhW x⟩
theorem ZHo:Ok gG 152 Zv1:=mkA Tryz.func152 [((156,0),Zd4),((139,0),Zaa)] [] {} ⟨Zgh,Zbp,trivial⟩
def Zv2:Entry:=⟨aV q32,qV rS,fun (x:List Path)=>ZhX x⟩
theorem ZHp:Ok gG 153 Zv2:=mkA Tryz.func153 [((134,0),ZoW),((232,0),Zgg)] [(106,Zi)] {tk:= [(1,1),(5,0),(5,7),(5,8),(6,0)],lv:= [(3,⟨[0,3,4],[],[],pV (rCo q2 (rCo q18 q9)),[]⟩)]} ⟨Zvg,ZkC,trivial⟩
def Zv3:Entry:=⟨aV (Zb q10),qV (rX .own 1 q12),fun (x:List Part)=>ZhY x⟩
theorem ZHq:Ok gG 300 Zv3:=mkA Tryz.func300 [] [(195,(ZJ .shr))] {tk:= [(1,1),(5,0),(5,7),(5,8),(6,0),(6,1)],lv:= [(3,⟨[0,3,4],[],[],pV (rCo q10 (rCo (rX .own 1 q12) q9)),[]⟩)]} trivial
def Zv4:Entry:=⟨aV (rCo q2 (Zb q22)),qV rB,fun (x:((List Path)×(List (List Int))))=>ZhZ x.1 x.2⟩
theorem ZHr:Ok gG 299 Zv4:=mkA Tryz.func299 [((289,0),Zab),((215,0),V5),((214,0),Ju)] [(29,q12),(106,Zi)] {lv:= [(2,⟨[0,1,5],[],[],pV (rCo q2 (rCo q22 q9)),[]⟩),(7,⟨[0,1,6],[],[],pV (rCo q2 (rCo q22 q9)),[]⟩),(11,⟨[0,1,6,7,8],[],[],pV (rCo q2 (rCo q22 (rCo rI (rCo rB q9)))),[]⟩)]} ⟨Zbq,Jv,Kp,trivial⟩
def Zpg:Entry:=⟨aV (rCo q2 (Zb q10)),qV rB,fun (x:(List Path)×(List Part))=>ZeW x.1 x.2⟩
theorem Zv5:Ok gG 236 Zpg:=mkA Tryz.func236 [((70,0),Y5),((289,0),Zab),((235,0),Zgf),((300,0),Zv3),((299,0),Zv4)] [(195,(ZJ .shr))] {lv:= [(4,⟨[0,1,5],[],[],pV q26,[]⟩)]} ⟨Xc,Zbq,ZkA,ZHq,ZHr,trivial⟩
def Zph:Entry:=⟨aV q32,qV (rX .own 2 (ZJ .shr)),fun (x:List Path)=>ZeX x⟩
theorem Zv6:Ok gG 155 Zph:=mkA Tryz.func155 [((135,0),ZoZ),((235,0),Zgf),((236,0),Zpg)] [(29,q12)] {tk:= [(1,1),(2,2),(6,0),(6,13),(6,14),(8,1),(9,0),(9,1)],lv:= [(4,⟨[0,3,4,5],[],[],pV (rCo q2 (rCo (rX .own 2 (ZJ .shr)) (rCo (rX .own 1 q12) q9))),[]⟩)]} ⟨Zvl,ZkA,Zv5,trivial⟩
def Zv7:Entry:=⟨aV (Zb q10),qV rS,fun (x:List Part)=>ZeY x⟩
theorem ZHs:Ok gG 154 Zv7:=mkA Tryz.func154 [((156,0),Zd4),((139,0),Zaa),((232,0),Zgg)] [(195,(ZJ .shr))] {tk:= [(1,1),(5,0),(5,16),(5,17),(6,0)],lv:= [(3,⟨[0,3,4],[],[],pV (rCo q10 (rCo q18 q9)),[]⟩)]} ⟨Zgh,Zbp,ZkC,trivial⟩
def Zv8:Entry:=⟨aV (rCo q2 q12),qV rB,fun (x:(List Path)×(List Int))=>Zh0 x.1 x.2⟩
theorem ZHt:Ok gG 339 Zv8:=mkA Tryz.func339 [((215,0),V5),((217,0),Zkp),((289,0),Zab)] [(106,Zi)] {lv:= [(2,⟨[0,1,5],[],[],pV (rCo q2 (rCo q4 q9)),[]⟩)]} ⟨Jv,ZoX,Zbq,trivial⟩
def Zpi (n:Nat):Entry:=⟨aV (rCo q2 (rCo rI (rCo q6 (Zb q33)))),qV q33,fun (x:((List Path)×Int×(List Int)×(List (List Int))))=>ZeZ n x.1 x.2.1 x.2.2.1 x.2.2.2⟩
def Zv9:Entry:=Zpi 64
theorem Zwa:∀n,Ok gG 301 (Zpi n)
 | 0=>by intro x r hr;cases hr
 |n + 1=>mk Tryz.func301 (by kernel_rfl) [((339,0),Zv8),((289,0),Zab),((301,0),Zpi n)] [] n0 [(106,Zi)] {tk:= [(3,0),(3,2),(3,3),(3,4),(3,5),(3,6),(4,0),(4,1),(5,9),(5,10),(7,3),(7,4),(7,5),(7,6),(8,3),(8,4),(8,5),(8,6)]} ⟨ZHt,Zbq,Zwa n,trivial⟩ trivial (fun x=>by kernel_rfl)
theorem ZHu:Ok gG 301 Zv9:=Zwa 64
def Zwb:Entry:=⟨aV q32,qV q33,fun (x:List Path)=>Zh1 x⟩
theorem ZHv:Ok gG 237 Zwb:=mkA Tryz.func237 [((214,0),Ju),((301,0),Zv9)] [] {tk:= [(2,1),(3,3),(3,4)]} ⟨Kp,ZHu,trivial⟩
def Zwc:Entry:=⟨aV q32,qV q6,fun (x:List Path)=>Zh2 x⟩
theorem ZHw:Ok gG 157 Zwc:=mkA Tryz.func157 [((237,0),Zwb)] [(29,q12)] {tk:= [(1,1),(2,2),(6,0),(6,7),(6,8),(7,0),(7,1)],lv:= [(4,⟨[3,4,5],[],[],pV (rCo q6 (rCo q33 q9)),[]⟩)]} ⟨ZHv,trivial⟩
def Zwd:Entry:=⟨aV q9,qV rS,fun (x:Int)=>ZmI x⟩
theorem ZHx:Ok gG 238 Zwd:=mkA Tryz.func238 [((70,0),Y5)] [(9,sR)] {} ⟨Xc,trivial⟩
def Zwe:Entry:=⟨aV q28,qV rS,fun (x:Town)=>Zh3 x⟩
theorem ZHy:Ok gG 158 Zwe:=mkA Tryz.func158 [((139,0),Zaa),((146,0),Zd1),((238,0),Zwd),((156,0),Zd4)] [] {} ⟨Zbp,Zgb,ZHx,Zgh,trivial⟩
def Zwf:Entry:=⟨aV q28,qV rB,fun (x:Town)=>Zh4 x⟩
theorem ZHz:Ok gG 239 Zwf:=mkA Tryz.func239 [((150,0),Zd2),((292,0),Zo5)] [] {} ⟨Zgc,Zvs,trivial⟩
def Zpj:Entry:=⟨aV (rCo q8 q9),qV rI,fun (x:(List Note)×Int)=>Ze0 x.1 x.2⟩
theorem Zwg:Ok gG 245 Zpj:=mkA Tryz.func245 [((220,0),ZdY)] [(134,(Zg .shr))] {lv:= [(3,⟨[0,1,5,6],[],[],pV (rCo q8 q21),[]⟩)]} ⟨Zf8,trivial⟩
def Zgi:Entry:=⟨aV (rCo q8 q9),qV (rTu (rCo q6 q16)),fun (x:(List Note)×Int)=>Zb0 x.1 x.2⟩
theorem ZkE:Ok gG 163 Zgi:=mkA Tryz.func163 [((245,0),Zpj)] [(134,(Zg .shr))] {tk:= [(3,1),(4,7)]} ⟨Zwg,trivial⟩
def Zwh:Entry:=⟨aV q28,qV rB,fun (x:Town)=>Zh5 x⟩
theorem ZHA:Ok gG 240 Zwh:=mkA Tryz.func240 [((163,0),Zgi),((150,0),Zd2),((293,0),Zkx)] [] {tk:= [(1,5),(1,6),(1,8),(2,2)]} ⟨ZkE,Zgc,Zo8,trivial⟩
def Zwi:Entry:=⟨aV q32,qV rI,fun (x:List Path)=>Zh6 x⟩
theorem ZHB:Ok gG 340 Zwi:=mkA Tryz.func340 [((214,0),Ju),((335,0),Zkr),((243,0),Zks)] [(106,Zi)] {lv:= [(3,⟨[0,3,4],[],[],pV q24,[]⟩)]} ⟨Kp,Zo0,Zo1,trivial⟩
def Zwj:Entry:=⟨aV q32,qV rI,fun (x:List Path)=>Zh7 x⟩
theorem ZHC:Ok gG 302 Zwj:=mkA Tryz.func302 [((340,0),Zwi)] [] {} ⟨ZHB,trivial⟩
def Zwk:Entry:=⟨aV q28,qV rB,fun (x:Town)=>Zh8 x⟩
theorem ZHD:Ok gG 241 Zwk:=mkA Tryz.func241 [((302,0),Zwj)] [(127,Zd)] {lv:= [(2,⟨[3],[(1,1,false)],[(1,13,false,false)],pVO q9 (Yu (Ys .shr .shr .shr .shr .shr .shr .shr)),[]⟩)]} ⟨ZHC,trivial⟩
def Zwl:Entry:=⟨aV q28,qV rS,fun (x:Town)=>Zh9 x⟩
theorem ZHE:Ok gG 159 Zwl:=mkA Tryz.func159 [((138,0),Zac),((239,0),Zwf),((240,0),Zwh),((241,0),Zwk)] [] {} ⟨Zbr,ZHz,ZHA,ZHD,trivial⟩
def Zwm:Entry:=⟨aV (rCo q1 q27),qV rS,fun (x:Town×ByteArray)=>Ze1 x.1 x.2⟩
theorem ZHF:Ok gG 77 Zwm:=mkA Tryz.func77 [((150,0),Zd2),((149,0),ZkD),((151,0),Zv0),((152,0),Zv1),((153,0),Zv2),((155,0),Zph),((154,0),Zv7),((157,0),Zwc),((156,0),Zd4),((158,0),Zwe),((159,0),Zwl)] [] {} ⟨Zgc,Zpf,ZHn,ZHo,ZHp,Zv6,ZHs,ZHw,Zgh,ZHy,ZHE,trivial⟩
def Zwn:Entry:=⟨aV (rCo q2 q9),qV q6,fun (x:(List Path)×Int)=>Zia x.1 x.2⟩
theorem ZHG:Ok gG 160 Zwn:=mkA Tryz.func160 [((145,0),Qi),((214,0),Ju),((166,0),ZdX)] [(106,Zi)] {tk:= [(1,1),(7,0),(7,7),(7,8),(8,0),(8,1)],lv:= [(4,⟨[0,5,6,7],[],[],pV (rCo q2 (rCo q6 q3)),[]⟩)]} ⟨QK,Kp,Zf5,trivial⟩
def Zwo:Entry:=⟨aV q26,qV rI,fun (x:(List Path)×(List Part)×Int)=>Zib x.1 x.2.1 x.2.2⟩
theorem ZHH:Ok gG 303 Zwo:=mkA Tryz.func303 [((291,0),Zf6)] [(195,(ZJ .shr))] {} ⟨Zkt,trivial⟩
def Zwp:Entry:=⟨aV (rCo q2 (rCo q10 q21)),qV rI,fun (x:(List Path)×(List Part)×Int×Int×Int)=>Zic x.1 x.2.1 x.2.2.1 x.2.2.2.1 x.2.2.2.2⟩
theorem ZHI:Ok gG 304 Zwp:=mkA Tryz.func304 [((215,0),V5),((145,0),Qi),((335,0),Zkr)] [(106,Zi),(195,(ZJ .shr))] {} ⟨Jv,QK,Zo0,trivial⟩
def Zwq:Entry:=⟨aV q26,qV q6,fun (x:(List Path)×(List Part)×Int)=>Zdg x.1 x.2.1 x.2.2⟩
theorem ZHJ:Ok gG 242 Zwq:=mkA Tryz.func242 [((236,0),Zpg),((145,0),Qi),((303,0),Zwo),((304,0),Zwp)] [] {tk:= [(1,1),(3,0),(3,1),(10,0),(10,8),(10,9),(11,0),(11,1)],lv:= [(5,⟨[0,1,2,7,8],[],[],pV (rCo q2 (rCo q10 (rCo rI q34))),[]⟩),(8,⟨[0,1,2,7,8,9],[],[],pV (rCo q2 (rCo q10 (rCo rI (rCo q6 q3)))),[]⟩)]} ⟨Zv5,QK,ZHH,ZHI,trivial⟩
def Zwr:Entry:=⟨aV q26,qV rI,fun (x:(List Path)×(List Part)×Int)=>Zdh x.1 x.2.1 x.2.2⟩
theorem ZHK:Ok gG 161 Zwr:=mkA Tryz.func161 [((242,0),Zwq),((243,0),Zks),((227,0),Zd3)] [(3,iR)] {tk:= [(1,4),(11,1)],lv:= [(5,⟨[7,8,9,10],[],[],pV (rCo q6 q21),[]⟩)]} ⟨ZHJ,Zo1,Zgd,trivial⟩
def Zws:Entry:=⟨aV q36,qV rB,fun (x:(List Path)×Control×Int)=>Zid x.1 x.2.1 x.2.2⟩
theorem ZHL:Ok gG 244 Zws:=mkA Tryz.func244 [((215,0),V5)] [] {} ⟨Jv,trivial⟩
def Zwt:Entry:=⟨aV q36,qV rI,fun (x:(List Path)×Control×Int)=>Zie x.1 x.2.1 x.2.2⟩
theorem ZHM:Ok gG 162 Zwt:=mkA Tryz.func162 [((145,0),Qi),((221,0),Jw),((244,0),Zws),((147,0),Zpe)] [(106,Zi)] {tk:= [(6,4)],lv:= [(5,⟨[0,2,8],[(4,4,false)],[(4,4,false,false)],pVO q24 (Yu (Qv .shr .shr)),[]⟩)]} ⟨QK,Kq,ZHL,ZvV,trivial⟩
def Zwu:Entry:=⟨aV (rCo q1 (rCo rS q9)),qV rS,fun (x:Town×ByteArray×Int)=>Ze2 x.1 x.2.1 x.2.2⟩
theorem ZHN:Ok gG 78 Zwu:=mkA Tryz.func78 [((160,0),Zwn),((156,0),Zd4),((155,0),Zph),((161,0),Zwr),((139,0),Zaa),((162,0),Zwt),((163,0),Zgi),((149,0),ZkD)] [] {tk:= [(9,4),(9,5),(9,7),(12,0)]} ⟨ZHG,Zgh,Zv6,ZHK,Zbp,ZHM,ZkE,Zpf,trivial⟩
def Zwv:Entry:=⟨aV (rCo q1 q9),qV rI,fun (x:Town×Int)=>ZmJ x.1 x.2⟩
theorem ZHO:Ok gG 164 Zwv:=mkA Tryz.func164 [((145,0),Qi)] [] {} ⟨QK,trivial⟩
def Zww:Entry:=⟨aV (rCo q8 q3),qV rI,fun (x:(List Note)×Int×Int)=>Zif x.1 x.2.1 x.2.2⟩
theorem ZHP:Ok gG 246 Zww:=mkA Tryz.func246 [((163,0),Zgi),((70,0),Y5)] [(3,iR)] {tk:= [(1,3),(1,4),(1,6),(4,0)]} ⟨ZkE,Xc,trivial⟩
def Zwx:Entry:=⟨aV (rCo q8 q3),qV rI,fun (x:(List Note)×Int×Int)=>Zig x.1 x.2.1 x.2.2⟩
theorem ZHQ:Ok gG 165 Zwx:=mkA Tryz.func165 [((246,0),Zww),((245,0),Zpj)] [(3,iR),(134,(Zg .shr))] {lv:= [(4,⟨[0,1,2,7],[],[],pV (rCo q8 q21),[]⟩)]} ⟨ZHP,Zwg,trivial⟩
def Zwy:Entry:=⟨aV (rCo q1 q3),qV (rTu (rCo (rAg XW) q16)),fun (x:Town×Int×Int)=>ZaR x.1 x.2.1 x.2.2⟩
theorem ZHR:Ok gG 79 Zwy:=mkA Tryz.func79 [((164,0),Zwv),((138,0),Zac),((163,0),Zgi),((165,0),Zwx),((166,0),ZdX)] [(3,iR),(106,Zi)] {tk:= [(4,4),(4,5),(4,7)],lv:= [(9,⟨[8,9,12],[(3,3,false),(6,6,false),(11,11,false)],[(3,13,false,false),(6,5,false,false),(11,5,false,false)],pVO (rCo rI q34) (XO (Ys .shr .shr .shr .shr .shr .shr .shr) (XO XW (Yu XW))),[]⟩)]} ⟨ZHO,Zbr,ZkE,ZHQ,Zf5,trivial⟩
def Zwz:Entry:=⟨aV (Zb (rAg XW)),qV rS,fun (x:Report)=>Zih x⟩
theorem ZHS:Ok gG 80 Zwz:=mkA Tryz.func80 [((139,0),Zaa),((149,0),ZkD)] [] {} ⟨Zbp,Zpf,trivial⟩
def ZwA:Entry:=⟨aV (rCo (rAg XW) (Zb (rAg XW))),qV rS,fun (x:Report×Report)=>Ze3 x.1 x.2⟩
theorem ZHT:Ok gG 81 ZwA:=mkA Tryz.func81 [((70,0),Y5)] [] {} ⟨Xc,trivial⟩
def ZwB:Entry:=⟨aV (rCo q1 (rCo rS q12)),qV rS,fun (x:Town×ByteArray×(List Int))=>X8 x.1 x.2.1 x.2.2⟩
theorem ZHU:Ok gG 31 ZwB:=mkA Tryz.func31 [((77,0),Zwm),((78,0),Zwu),((79,0),Zwy),((80,0),Zwz),((81,0),ZwA)] [(3,iR)] {} ⟨ZHF,ZHN,ZHR,ZHS,ZHT,trivial⟩
def ZwC:Entry:=⟨aV (rCo q1 q27),qV (rTu (rCo q1 q27)),fun (x:Town×ByteArray)=>Zdi x.1 x.2⟩
theorem ZHV:Ok gG 11 ZwC:=mkA Tryz.func11 [((24,0),Zvf),((25,0),Q3),((26,0),Zvw),((27,0),Zvy),((28,0),Zvz),((29,0),ZvX),((30,0),Zo6),((31,0),ZwB)] [(9,sR)] {tk:= [(1,2),(3,2),(5,1),(6,3),(6,4),(6,6),(8,2),(11,3),(11,4),(11,7),(13,3),(13,6),(13,8)],mo:= [(12,1)]} ⟨ZGN,Vw,ZGY,ZG0,ZG1,ZHk,Zvv,ZHU,trivial⟩
def ZwD:Entry:=⟨aV q27,qV (rTu (rCo q18 q16)),fun (x:ByteArray)=>Zii x⟩
theorem ZHW:Ok gG 5 ZwD:=mkA Tryz.func5 [((11,0),ZwC)] [(9,sR)] {tk:= [(1,1),(8,0),(8,6),(8,7),(11,1),(12,2),(13,1),(19,0),(19,3),(19,4),(20,0),(20,1)],lv:= [(4,⟨[0,4,5,6],[],[],pV (rCo rS (rCo q18 q3)),[]⟩),(15,⟨[4,8,9],[(7,7,false)],[(7,13,false,false)],pVO (rCo q18 (rCo q18 q9)) (Yu (Ys .shr .shr .shr .shr .shr .shr .shr)),[]⟩)]} ⟨ZHV,trivial⟩
def Zpk:Entry:=⟨aV q32,qV (rX .own 4 Zi),fun (x:List Path)=>ZV x⟩
theorem ZwE:Ok gG 87 Zpk:=mkA Tryz.func87 [] [] {tk:= [(3,3)]} trivial
def ZkF:Entry:=⟨aV (Zb q11),qV q20,fun (x:List Want)=>JT x⟩
theorem Zpl:Ok gG 88 ZkF:=mkA Tryz.func88 [] [] {tk:= [(3,3)]} trivial
def ZwF:Entry:=⟨aV (Zb q13),qV (rX .own 3 Zu),fun (x:List Lamp)=>Zij x⟩
theorem ZHX:Ok gG 89 ZwF:=mkA Tryz.func89 [] [] {tk:= [(3,3)]} trivial
def Zad:Entry:=⟨aV q12,qV q6,fun (x:List Int)=>Vg x⟩
theorem Zbs:Ok gG 167 Zad:=mkA Tryz.func167 [] [] {tk:= [(3,3)]} trivial
def Zd5:Entry:=⟨aV (Zb q7),qV q14,fun (x:Control)=>JU x⟩
theorem Zgj:Ok gG 90 Zd5:=mkA Tryz.func90 [((167,0),Zad)] [] {tk:= [(1,7),(1,9),(2,1)],mo:= [(2,0)]} ⟨Zbs,trivial⟩
def ZkG:Entry:=⟨aV (Zb q8),qV q23,fun (x:List Note)=>Zb1 x⟩
theorem Zpm:Ok gG 91 ZkG:=mkA Tryz.func91 [((167,0),Zad)] [(134,(Zg .shr))] {tk:= [(1,1),(5,4),(6,0),(6,2),(6,3),(6,4),(8,0),(8,1)],mo:= [(6,1)],lv:= [(3,⟨[3,7,8,9],[],[],pV (rCo q23 (rCo q8 q3)),[]⟩)]} ⟨Zbs,trivial⟩
def Jx:Entry:=⟨aV q28,qV q17,fun (x:Town)=>Yv x⟩
theorem Kr:Ok gG 38 Jx:=mkA Tryz.func38 [((87,0),Zpk),((88,0),ZkF),((89,0),ZwF),((90,0),Zd5),((91,0),ZkG)] [] {tk:= [(1,10),(1,12),(1,14),(2,7),(2,9),(3,1)],mo:= [(3,0)]} ⟨ZwE,Zpl,ZHX,Zgj,Zpm,trivial⟩
def Zpn:Entry:=⟨aV q27,qV (rTu (rCo rI q16)),fun (x:ByteArray)=>Ze4 x⟩
theorem ZwG:Ok gG 97 Zpn:=mkA Tryz.func97 [] [] {lv:= [(5,⟨[0,4,25,26],[],[],pV (rCo rS q21),[]⟩)]} trivial
def X3:Entry:=⟨aV q21,qV rB,fun (x:Int×Int×Int)=>Yt x.1 x.2.1 x.2.2⟩
theorem Qj:Ok gG 182 X3:=mkA Tryz.func182 [] [] {} trivial
def Zgk:Entry:=⟨aV q31,qV rB,fun (x:Path)=>ZaS x⟩
theorem ZkH:Ok gG 251 Zgk:=mkA Tryz.func251 [((182,0),X3)] [] {} ⟨Qj,trivial⟩
def Zbt:Entry:=⟨aV q9,qV rS,fun (x:Int)=>XX x⟩
theorem ZcG:Ok gG 114 Zbt:=mkA Tryz.func114 [((201,0),Zvb)] [] {} ⟨ZGJ,trivial⟩
def Zpo:Entry:=⟨aV q31,qV rS,fun (x:Path)=>Ze5 x⟩
theorem ZwH:Ok gG 169 Zpo:=mkA Tryz.func169 [((251,0),Zgk),((114,0),Zbt)] [] {} ⟨ZkH,ZcG,trivial⟩
def ZwI:Entry:=⟨aV q27,qV (rTu (rCo (rAg Zi) q16)),fun (x:ByteArray)=>Zik x⟩
theorem ZHY:Ok gG 92 ZwI:=mkA Tryz.func92 [((97,0),Zpn),((168,0),Zva),((169,0),Zpo)] [] {} ⟨ZwG,ZGI,ZwH,trivial⟩
def ZwJ:Entry:=⟨aV (Zb q15),qV (rTu (rCo q2 q16)),fun (x:List ByteArray)=>Zil x⟩
theorem ZHZ:Ok gG 39 ZwJ:=mkA Tryz.func39 [((92,0),ZwI)] [(9,sR)] {tk:= [(1,1),(8,0),(8,3),(8,4),(10,1)],lv:= [(3,⟨[4,10,11,12],[],[],pV (rCo (rX .own 4 Zi) (rCo q15 q3)),[]⟩)]} ⟨ZHY,trivial⟩
def Jy:Entry:=⟨aV q32,qV rB,fun (x:List Path)=>Vh x⟩
theorem Ks:Ok gG 170 Jy:=mkA Tryz.func170 [((251,0),Zgk)] [(106,Zi)] {lv:= [(4,⟨[0,8,9,10],[],[],pV (rCo q2 q24),[]⟩)]} ⟨ZkH,trivial⟩
def ZwK:Entry:=⟨aV (rCo q4 q9),qV rI,fun (x:(List Int)×Int)=>ZmK x.1 x.2⟩
theorem ZH0:Ok gG 258 ZwK:=mkA Tryz.func258 [] [(3,iR)] {lv:= [(2,⟨[0,1,7,8],[],[],pV (rCo q4 q21),[]⟩)]} trivial
def Kt:Entry:=⟨aV (rCo q4 q9),qV rB,fun (x:(List Int)×Int)=>QT x.1 x.2⟩
theorem Zae:Ok gG 177 Kt:=mkA Tryz.func177 [((258,0),ZwK)] [] {} ⟨ZH0,trivial⟩
def ZwL:Entry:=⟨aV (rCo q4 q29),qV rB,fun (x:(List Int)×Int)=>ZmL x.1 x.2⟩
theorem ZH1:Ok gG 253 ZwL:=mkA Tryz.func253 [((177,0),Kt)] [] {} ⟨Zae,trivial⟩
def ZwM:Entry:=⟨aV (rCo q22 (Zb (rFn 253 q29))),qV rI,fun (x:((List (List Int))×Int))=>ZmM x.1 x.2⟩
theorem ZH2:Ok gG 306 ZwM:=mkA Tryz.func306 [((253,0),ZwL)] [(29,q12)] {lv:= [(2,⟨[0,1,7,8],[],[],pV (rCo q22 (rCo (rFn 253 q29) q3)),[]⟩)]} ⟨ZH1,trivial⟩
def ZwN:Entry:=⟨aV (rCo q22 (Zb (rFn 253 q29))),qV rB,fun (x:((List (List Int))×Int))=>ZmN x.1 x.2⟩
theorem ZH3:Ok gG 252 ZwN:=mkA Tryz.func252 [((306,0),ZwM)] [] {} ⟨ZH2,trivial⟩
def Zpp:Entry:=⟨aV (rCo q22 q9),qV rB,fun (x:((List (List Int))×Int))=>Ze6 x.1 x.2⟩
theorem ZwO:Ok gG 171 Zpp:=mkA Tryz.func171 [((252,0),ZwN)] [] {} ⟨ZH3,trivial⟩
def ZwP:Entry:=⟨aV (rCo (rAg Zi) q29),qV rB,fun (x:Path×Int)=>ZmO x.1 x.2⟩
theorem ZH4:Ok gG 275 ZwP:=mkA Tryz.func275 [] [] {} trivial
def ZwQ:Entry:=⟨aV (rCo q2 (Zb (rFn 275 q29))),qV rI,fun (x:(List Path)×Int)=>ZmP x.1 x.2⟩
theorem ZH5:Ok gG 274 ZwQ:=mkA Tryz.func274 [((275,0),ZwP)] [(106,Zi)] {lv:= [(2,⟨[0,1,7,8],[],[],pV (rCo q2 (rCo (rFn 275 q29) q3)),[]⟩)]} ⟨ZH4,trivial⟩
def Q4:Entry:=⟨aV (rCo q2 q9),qV rI,fun (x:(List Path)×Int)=>Xp x.1 x.2⟩
theorem Vx:Ok gG 199 Q4:=mkA Tryz.func199 [((274,0),ZwQ)] [] {} ⟨ZH5,trivial⟩
def ZwR:Entry:=⟨aV q9,qV rI,fun (x:Int)=>JV x⟩
theorem ZH6:Ok gG 277 ZwR:=mkA Tryz.func277 [((182,0),X3)] [] {} ⟨Qj,trivial⟩
def ZwS:Entry:=⟨aV q9,qV rI,fun (x:Int)=>JW x⟩
theorem ZH7:Ok gG 278 ZwS:=mkA Tryz.func278 [((182,0),X3)] [] {} ⟨Qj,trivial⟩
def ZwT:Entry:=⟨aV (rCo rI q21),qV rB,fun (x:Int×Int×Int×Int)=>Zb2 x.1 x.2.1 x.2.2.1 x.2.2.2⟩
theorem ZH8:Ok gG 276 ZwT:=mkA Tryz.func276 [((182,0),X3)] [(3,iR)] {lv:= [(2,⟨[0,1,2,3,16,17,18],[],[],pV (rCo rI (rCo rI (rCo rI (rCo rI (rCo q6 q3))))),[]⟩)]} ⟨Qj,trivial⟩
def ZcH:Entry:=⟨aV (rCo (rAg Zi) q31),qV rB,fun (x:Path×Path)=>JX x.1 x.2⟩
theorem Zd6:Ok gG 200 ZcH:=mkA Tryz.func200 [((251,0),Zgk),((277,0),ZwR),((278,0),ZwS),((276,0),ZwT)] [] {} ⟨ZkH,ZH6,ZH7,ZH8,trivial⟩
def ZcI:Entry:=⟨aV (rCo q2 q12),qV rB,fun (x:(List Path)×(List Int))=>VN x.1 x.2⟩
theorem Zd7:Ok gG 254 ZcI:=mkA Tryz.func254 [((170,0),Jy),((199,0),Q4),((200,0),ZcH)] [(3,iR),(106,Zi)] {lv:= [(4,⟨[0,1,13,14,15],[],[],pV (rCo q2 (rCo q4 q35)),[]⟩),(10,⟨[0,1,7,13,14,15,40,41,42],[],[],pV (rCo q2 (rCo q4 (rCo rI (rCo q4 (rCo rI (rCo rI q35)))))),[]⟩)]} ⟨Ks,Vx,Zd6,trivial⟩
def ZwU:Entry:=⟨aV q9,qV rB,fun (x:Int)=>Zim x⟩
theorem ZH9:Ok gG 365 ZwU:=mkA Tryz.func365 [] [] {} trivial
def ZwV:Entry:=⟨aV q3,qV rB,fun (x:Int×Int)=>Zin x.1 x.2⟩
theorem ZIa:Ok gG 341 ZwV:=mkA Tryz.func341 [((365,0),ZwU)] [] {} ⟨ZH9,trivial⟩
def ZwW:Entry:=⟨aV q9,qV rB,fun (x:Int)=>Zio x⟩
theorem ZIb:Ok gG 342 ZwW:=mkA Tryz.func342 [] [] {} trivial
def ZwX:Entry:=⟨aV (rCo q4 q9),qV (rTu (rCo rI q16)),fun (x:(List Int)×Int)=>Zip x.1 x.2⟩
theorem ZIc:Ok gG 307 ZwX:=mkA Tryz.func307 [((341,0),ZwV),((342,0),ZwW)] [(3,iR)] {lv:= [(3,⟨[0,1,6,7,8],[],[],pV (rCo q4 (rCo rI q21)),[]⟩)]} ⟨ZIa,ZIb,trivial⟩
def ZwY:Entry:=⟨aV (rCo q4 q9),qV q6,fun (x:(List Int)×Int)=>Ziq x.1 x.2⟩
theorem ZId:Ok gG 255 ZwY:=mkA Tryz.func255 [((307,0),ZwX),((167,0),Zad),((308,0),Zvc)] [] {tk:= [(2,5),(2,6)],hb:= [((2,1),2)],rt:= [((2,1),(rX .unq 1 iR))]} ⟨ZIc,Zbs,ZGK,trivial⟩
def ZkI:Entry:=⟨aV (rCo q2 q12),qV q6,fun (x:(List Path)×(List Int))=>Zdj x.1 x.2⟩
theorem Zpq:Ok gG 172 ZkI:=mkA Tryz.func172 [((167,0),Zad),((254,0),ZcI),((177,0),Kt),((255,0),ZwY)] [(106,Zi)] {tk:= [(1,2),(3,0),(3,1),(8,4),(10,0),(10,1),(12,0),(12,1)],lv:= [(5,⟨[0,5,16,17,18],[],[],pV (rCo q2 (rCo q6 q24)),[]⟩)]} ⟨Zbs,Zd7,Zae,ZId,trivial⟩
def Zpr:Entry:=⟨aV q32,qV q33,fun (x:List Path)=>Ze7 x⟩
theorem ZwZ:Ok gG 93 Zpr:=mkA Tryz.func93 [((170,0),Jy),((171,0),Zpp),((172,0),ZkI)] [(106,Zi)] {tk:= [(1,1),(3,0),(3,1),(8,0),(8,6),(8,7),(8,8),(10,0),(10,1)],lv:= [(5,⟨[0,3,11,12,13],[],[],pV (rCo q2 (rCo q33 q24)),[]⟩)]} ⟨Ks,ZwO,Zpq,trivial⟩
def Zw0:Entry:=⟨aV (rCo q4 (rCo q4 q16)),qV q6,fun (x:(List Int)×(List Int)×Bool)=>ZmQ x.1 x.2.1 x.2.2⟩
theorem ZIe:Ok gG 346 Zw0:=mkA Tryz.func346 [((177,0),Kt)] [(3,iR)] {tk:= [(1,1),(6,0),(6,3),(6,4),(8,0),(8,1)],lv:= [(3,⟨[1,2,7,11,12,13],[],[],pV (rCo q4 (rCo rB (rCo q6 q35))),[]⟩)]} ⟨Zae,trivial⟩
def Zw1:Entry:=⟨aV (rCo q4 q12),qV q6,fun (x:(List Int)×(List Int))=>Ze8 x.1 x.2⟩
theorem ZIf:Ok gG 310 Zw1:=mkA Tryz.func310 [((346,0),Zw0)] [] {tk:= [(1,3)]} ⟨ZIe,trivial⟩
def ZkJ:Entry:=⟨aV q31,qV rI,fun (x:Path)=>Zdk x⟩
theorem Zps:Ok gG 311 ZkJ:=mkA Tryz.func311 [((251,0),Zgk)] [] {} ⟨ZkH,trivial⟩
def Zgl:Entry:=⟨aV (rCo q2 (rCo q4 q12)),qV rI,fun (x:(List Path)×(List Int)×(List Int))=>Zb3 x.1 x.2.1 x.2.2⟩
theorem ZkK:Ok gG 257 Zgl:=mkA Tryz.func257 [((254,0),ZcI),((310,0),Zw1),((199,0),Q4),((200,0),ZcH),((311,0),ZkJ)] [(3,iR),(106,Zi)] {lv:= [(5,⟨[0,1,2,7,26,27,28],[],[],pV (rCo q2 (rCo q4 (rCo q4 (rCo rI (rCo q6 q3))))),[]⟩),(8,⟨[0,1,2,7,9,26,27,28,34,35,36],[],[],pV (rCo q2 (rCo q4 (rCo q4 (rCo rI (rCo rI (rCo q6 (rCo rI (rCo rI (rCo q6 q3))))))))),[]⟩)]} ⟨Zd7,ZIf,Vx,Zd6,Zps,trivial⟩
def Ku:Entry:=⟨aV q25,qV rB,fun (x:(List Path)×Control)=>VO x.1 x.2⟩
theorem Zaf:Ok gG 176 Ku:=mkA Tryz.func176 [((254,0),ZcI),((182,0),X3),((257,0),Zgl)] [] {} ⟨Zd7,Qj,ZkK,trivial⟩
def Zgm:Entry:=⟨aV q25,qV q6,fun (x:(List Path)×Control)=>Zb4 x.1 x.2⟩
theorem ZkL:Ok gG 95 Zgm:=mkA Tryz.func95 [((176,0),Ku),((177,0),Kt)] [(106,Zi)] {tk:= [(1,1),(3,0),(3,1),(12,0),(12,3),(12,4),(14,0),(14,1)],lv:= [(5,⟨[5,15,16,17],[(3,3,false)],[(3,4,false,false)],pVO (rCo q6 q24) (Yu (Qv .shr .shr)),[]⟩)]} ⟨Zaf,Zae,trivial⟩
def Zw2:Entry:=⟨aV (Zb q8),qV rI,fun (x:List Note)=>Zir x⟩
theorem ZIg:Ok gG 174 Zw2:=mkA Tryz.func174 [] [(134,(Zg .shr))] {} trivial
def Zw3:Entry:=⟨aV q3,qV rI,fun (x:Int×Int)=>Zis x.1 x.2⟩
theorem ZIh:Ok gG 345 Zw3:=mkA Tryz.func345 [((182,0),X3)] [] {} ⟨Qj,trivial⟩
def Zw4:Entry:=⟨aV q3,qV rI,fun (x:Int×Int)=>Zit x.1 x.2⟩
theorem ZIi:Ok gG 309 Zw4:=mkA Tryz.func309 [((345,0),Zw3)] [] {} ⟨ZIh,trivial⟩
def Zw5:Entry:=⟨aV q12,qV rI,fun (x:List Int)=>Ziu x⟩
theorem ZIj:Ok gG 256 Zw5:=mkA Tryz.func256 [((309,0),Zw4)] [(3,iR)] {lv:= [(3,⟨[3,6,7,8],[],[],pV (rCo rI q35),[]⟩)]} ⟨ZIi,trivial⟩
def Zpt:Entry:=⟨aV (rCo rI (rCo rI q12)),qV rI,fun (x:Int×Int×(List Int))=>Zdl x.1 x.2.1 x.2.2⟩
theorem Zw6:Ok gG 173 Zpt:=mkA Tryz.func173 [((256,0),Zw5)] [] {} ⟨ZIj,trivial⟩
def Zd8:Entry:=⟨aV (Zb q8),qV rB,fun (x:List Note)=>ZaT x⟩
theorem Zgn:Ok gG 175 Zd8:=mkA Tryz.func175 [((182,0),X3),((173,0),Zpt)] [(3,iR),(134,(Zg .shr))] {lv:= [(5,⟨[0,3,11,12,13],[],[],pV (rCo q8 (rCo rI (rCo q8 q3))),[]⟩),(10,⟨[0,11,12,13,66,67,68],[(5,5,false)],[(5,3,false,false)],pVO (rCo q8 (rCo q8 (rCo rI (rCo rI q35)))) (Yu (Zg .shr)),[]⟩)]} ⟨Qj,Zw6,trivial⟩
def Zpu:Entry:=⟨aV (rCo q8 (rCo rI q12)),qV (rTu (rCo q23 q16)),fun (x:(List Note)×Int×(List Int))=>Zdm x.1 x.2.1 x.2.2⟩
theorem Zw7:Ok gG 94 Zpu:=mkA Tryz.func94 [((91,0),ZkG),((167,0),Zad),((174,0),Zw2),((173,0),Zpt),((175,0),Zd8)] [] {tk:= [(1,10),(1,11),(1,12),(1,13),(3,2),(4,0),(4,1)]} ⟨Zpm,Zbs,ZIg,Zw6,Zgn,trivial⟩
def Zgo:Entry:=⟨aV (rCo q2 (Zb q11)),qV rB,fun (x:(List Path)×(List Want))=>KJ x.1 x.2⟩
theorem ZkM:Ok gG 178 Zgo:=mkA Tryz.func178 [((170,0),Jy),((199,0),Q4),((182,0),X3)] [(127,Zd)] {lv:= [(4,⟨[0,1,10,11,12],[],[],pV (rCo q2 (rCo q11 (rCo q11 q3))),[]⟩)]} ⟨Ks,Vx,Qj,trivial⟩
def Zpv:Entry:=⟨aV (rCo q2 q9),qV rB,fun (x:(List Path)×Int)=>Zdn x.1 x.2⟩
theorem Zw8:Ok gG 259 Zpv:=mkA Tryz.func259 [((199,0),Q4)] [(106,Zi)] {} ⟨Vx,trivial⟩
def Zgp:Entry:=⟨aV (rCo q2 q30),qV rB,fun (x:(List Path)×Prio)=>Zb5 x.1 x.2⟩
theorem ZkN:Ok gG 179 Zgp:=mkA Tryz.func179 [((170,0),Jy),((259,0),Zpv),((182,0),X3)] [] {} ⟨Ks,Zw8,Qj,trivial⟩
def Zpw:Entry:=⟨aV (rCo q2 (Zb q13)),qV rB,fun (x:(List Path)×(List Lamp))=>Ze9 x.1 x.2⟩
theorem Zw9:Ok gG 180 Zpw:=mkA Tryz.func180 [((170,0),Jy),((199,0),Q4)] [(131,Zu)] {lv:= [(4,⟨[0,1,12,13,14],[],[],pV (rCo q2 (rCo q13 (rCo q13 q3))),[]⟩),(9,⟨[0,1,12,13,14,36,37,38],[(6,6,false)],[(6,3,false,false)],pVO (rCo q2 (rCo q13 (rCo q13 (rCo rI (rCo rI (rCo q13 q3)))))) (Yu Zu),[]⟩)]} ⟨Ks,Vx,trivial⟩
def Zpx:Entry:=⟨aV (rCo q2 q12),qV rB,fun (x:(List Path)×(List Int))=>Zfa x.1 x.2⟩
theorem Zxa:Ok gG 260 Zpx:=mkA Tryz.func260 [((170,0),Jy),((182,0),X3),((200,0),ZcH)] [(3,iR),(106,Zi)] {lv:= [(4,⟨[0,1,19,20,21],[],[],pV (rCo q2 (rCo q4 q24)),[]⟩),(9,⟨[0,1,5,19,20,21,34,35,36],[(6,6,false)],[(6,4,false,false)],pVO (rCo q2 (rCo q4 (rCo rI (rCo q2 (rCo rI (rCo rI q24)))))) (Yu Zi),[]⟩)]} ⟨Ks,Qj,Zd6,trivial⟩
def Zxb:Entry:=⟨aV (rCo q2 (Zb q8)),qV rI,fun (x:(List Path)×(List Note))=>Ziv x.1 x.2⟩
theorem ZIk:Ok gG 181 Zxb:=mkA Tryz.func181 [((175,0),Zd8),((260,0),Zpx)] [(134,(Zg .shr))] {lv:= [(4,⟨[0,10,11,12],[],[],pV (rCo q2 (rCo q8 q3)),[]⟩)]} ⟨Zgn,Zxa,trivial⟩
def Zag:Entry:=⟨aV q28,qV rB,fun (x:Town)=>VP x⟩
theorem Zbu:Ok gG 96 Zag:=mkA Tryz.func96 [((176,0),Ku),((178,0),Zgo),((179,0),Zgp),((180,0),Zpw),((175,0),Zd8),((181,0),Zxb),((182,0),X3)] [(134,(Zg .shr))] {} ⟨Zaf,ZkM,ZkN,Zw9,Zgn,ZIk,Qj,trivial⟩
def Zxc:Entry:=⟨aV q32,qV (rTu q5),fun (x:List Path)=>Ziw x⟩
theorem ZIl:Ok gG 40 Zxc:=mkA Tryz.func40 [((93,0),Zpr),((87,0),Zpk),((95,0),Zgm),((94,0),Zpu),((96,0),Zag)] [(29,(Zb q6))] {tk:= [(1,2),(3,1),(4,2),(4,3),(4,5),(4,6),(4,8),(5,5),(5,6),(5,9),(7,1),(8,1)],mo:= [(4,4),(8,0)],ao:= [4],jr:= [(4,⟨[0],[(2,2,false),(5,5,false)],[(2,13,false,false),(5,13,false,false)],pVO q32 (XO (Ys .own .own .own .own .own .own .own) (Yu (Ys .own .own .own .own .own .own .own))),[]⟩)]} ⟨ZwZ,ZwE,ZkL,Zw7,Zbu,trivial⟩
def Zxd:Entry:=⟨aV (rCo q1 (rCo q1 q16)),qV (rTu (rCo q1 q27)),fun (x:Town×Town×Bool)=>ZaU x.1 x.2.1 x.2.2⟩
theorem ZIm:Ok gG 41 Zxd:=mkA Tryz.func41 [((38,0),Jx)] [] {tk:= [(2,2)]} ⟨Kr,trivial⟩
def Zxe:Entry:=⟨aV q27,qV rI,fun (x:ByteArray)=>Zix x⟩
theorem ZIn:Ok gG 43 Zxe:=mkA Tryz.func43 [] [] {} trivial
def Zxf:Entry:=⟨aV (rCo q15 q9),qV (rTu (rCo q4 q16)),fun (x:(List ByteArray)×Int)=>Ziy x.1 x.2⟩
theorem ZIo:Ok gG 42 Zxf:=mkA Tryz.func42 [((97,0),Zpn)] [(9,sR)] {tk:= [(1,1),(8,0),(8,3),(8,4),(10,1)],lv:= [(3,⟨[1,6,12,13,14],[],[],pV (rCo rI (rCo q6 (rCo q15 q3))),[]⟩)]} ⟨ZwG,trivial⟩
def Zxg:Entry:=⟨aV (rCo (rAg Zd) q29),qV rB,fun (x:Want×Int)=>ZmR x.1 x.2⟩
theorem ZIp:Ok gG 262 Zxg:=mkA Tryz.func262 [] [] {} trivial
def Zxh:Entry:=⟨aV (rCo q11 (Zb (rFn 262 q29))),qV rI,fun (x:(List Want)×Int)=>ZmS x.1 x.2⟩
theorem ZIq:Ok gG 312 Zxh:=mkA Tryz.func312 [((262,0),Zxg)] [(127,Zd)] {lv:= [(2,⟨[0,1,7,8],[],[],pV (rCo q11 (rCo (rFn 262 q29) q3)),[]⟩)]} ⟨ZIp,trivial⟩
def Zxi:Entry:=⟨aV (rCo q11 (Zb (rFn 262 q29))),qV rB,fun (x:(List Want)×Int)=>Ziz x.1 x.2⟩
theorem ZIr:Ok gG 261 Zxi:=mkA Tryz.func261 [((312,0),Zxh)] [] {} ⟨ZIq,trivial⟩
def Zxj:Entry:=⟨aV (rCo q2 (rCo q11 q9)),qV (rTu (rCo q20 q16)),fun (x:(List Path)×(List Want)×Int)=>ZiA x.1 x.2.1 x.2.2⟩
theorem ZIs:Ok gG 183 Zxj:=mkA Tryz.func183 [((88,0),ZkF),((261,0),Zxi),((263,0),Zvd),((178,0),Zgo)] [(127,Zd)] {tk:= [(1,2),(3,0),(3,1),(7,0),(7,5),(7,6),(9,2),(10,0),(10,1)],hb:= [((1,1),2),((3,1),4)],rt:= [((1,1),(rX .unq 2 Zd))],lv:= [(5,⟨[0,1,8,9],[(5,5,false)],[(5,1,false,true)],pVO (rCo q2 (rCo q11 (rCo (rX .unq 2 Zd) q9))) (Yu iR),[]⟩)]} ⟨Zpl,ZIr,ZGL,ZkM,trivial⟩
def ZcJ:Entry:=⟨aV (rCo q1 q5),qV (rTu q5),fun (x:Town×Town×Bool)=>QU x.1 x.2.1 x.2.2⟩
theorem Zd9:Ok gG 184 ZcJ:=mkA Tryz.func184 [((96,0),Zag),((38,0),Jx)] [] {tk:= [(0,1),(2,2),(3,1)],mo:= [(3,0)]} ⟨Zbu,Kr,trivial⟩
def Zxk:Entry:=⟨aV (rCo q1 q9),qV (rTu q5),fun (x:Town×Int)=>ZiB x.1 x.2⟩
theorem ZIt:Ok gG 98 Zxk:=mkA Tryz.func98 [((38,0),Jx),((183,0),Zxj),((184,0),ZcJ)] [] {tk:= [(1,3),(2,6),(2,7),(2,10),(3,3),(3,4),(3,6)],mo:= [(3,1)]} ⟨Kr,ZIs,Zd9,trivial⟩
def Zxl:Entry:=⟨aV (rCo q2 (rCo (rAg ZaC) q9)),qV (rTu (rCo (rAg ZaC) q16)),fun (x:(List Path)×Prio×Int)=>ZiC x.1 x.2.1 x.2.2⟩
theorem ZIu:Ok gG 185 Zxl:=mkA Tryz.func185 [((179,0),Zgp),((259,0),Zpv)] [] {} ⟨ZkN,Zw8,trivial⟩
def Zxm:Entry:=⟨aV (rCo q1 q9),qV (rTu q5),fun (x:Town×Int)=>ZiD x.1 x.2⟩
theorem ZIv:Ok gG 99 Zxm:=mkA Tryz.func99 [((38,0),Jx),((185,0),Zxl),((184,0),ZcJ)] [] {tk:= [(1,3),(3,3),(3,4),(3,6)],mo:= [(3,1)]} ⟨Kr,ZIu,Zd9,trivial⟩
def ZkO:Entry:=⟨aV (rCo q2 q9),qV rB,fun (x:(List Path)×Int)=>Zdo x.1 x.2⟩
theorem Zpy:Ok gG 186 ZkO:=mkA Tryz.func186 [((199,0),Q4)] [(106,Zi)] {} ⟨Vx,trivial⟩
def Zxn:Entry:=⟨aV (Zb (rAg Zu)),qV rB,fun (x:Lamp)=>ZmT x⟩
theorem ZIw:Ok gG 316 Zxn:=mkA Tryz.func316 [] [] {} trivial
def Zxo:Entry:=⟨aV (rCo q13 (Zb (rFn 316 Zee))),qV rI,fun (x:(List Lamp)×Unit)=>ZmU x.1⟩
theorem ZIx:Ok gG 348 Zxo:=mkA Tryz.func348 [((316,0),Zxn)] [(131,Zu)] {lv:= [(2,⟨[0,1,7,8],[],[],pV (rCo q13 (rCo (rFn 316 Zee) q3)),[]⟩)]} ⟨ZIw,trivial⟩
def Zxp:Entry:=⟨aV (rCo q13 (Zb (rFn 316 Zee))),qV rB,fun (x:(List Lamp)×Unit)=>ZiE x.1⟩
theorem ZIy:Ok gG 315 Zxp:=mkA Tryz.func315 [((348,0),Zxo)] [] {} ⟨ZIx,trivial⟩
def Zxq:Entry:=⟨aV (rCo q2 (rCo q13 q16)),qV rI,fun (x:(List Path)×(List Lamp)×Bool)=>ZiF x.1 x.2.1 x.2.2⟩
theorem ZIz:Ok gG 264 Zxq:=mkA Tryz.func264 [((180,0),Zpw),((315,0),Zxp)] [] {} ⟨Zw9,ZIy,trivial⟩
def Zea:Entry:=⟨aV q28,qV rI,fun (x:Town)=>QV x⟩
theorem Zgq:Ok gG 187 Zea:=mkA Tryz.func187 [((264,0),Zxq)] [] {} ⟨ZIz,trivial⟩
def Zgr:Entry:=⟨aV (rCo q2 q12),qV rI,fun (x:(List Path)×(List Int))=>Zb6 x.1 x.2⟩
theorem ZkP:Ok gG 196 Zgr:=mkA Tryz.func196 [((199,0),Q4)] [(3,iR),(106,Zi)] {lv:= [(2,⟨[0,8,9,10],[],[],pV (rCo q2 q35),[]⟩)]} ⟨Vx,trivial⟩
def Zxr:Entry:=⟨aV q25,qV rB,fun (x:(List Path)×Control)=>ZiG x.1 x.2⟩
theorem ZIA:Ok gG 317 Zxr:=mkA Tryz.func317 [((176,0),Ku),((196,0),Zgr)] [] {} ⟨Zaf,ZkP,trivial⟩
def Zxs:Entry:=⟨aV q36,qV (rTu (rCo q14 q16)),fun (x:(List Path)×Control×Int)=>ZiH x.1 x.2.1 x.2.2⟩
theorem ZIB:Ok gG 265 Zxs:=mkA Tryz.func265 [((90,0),Zd5),((317,0),Zxr),((186,0),ZkO),((177,0),Kt),((257,0),Zgl)] [] {tk:= [(1,3),(3,1),(4,2),(7,0),(7,3),(8,1),(9,0),(9,1),(9,2)],mo:= [(3,0),(8,0)]} ⟨Zgj,ZIA,Zpy,Zae,ZkK,trivial⟩
def ZkQ:Entry:=⟨aV q25,qV q14,fun (x:(List Path)×Control)=>Zdp x.1 x.2⟩
theorem Zpz:Ok gG 266 ZkQ:=mkA Tryz.func266 [((90,0),Zd5),((176,0),Ku),((167,0),Zad)] [] {tk:= [(1,3),(2,3),(2,4),(8,1)],mo:= [(8,0)]} ⟨Zgj,Zaf,Zbs,trivial⟩
def ZpA:Entry:=⟨aV q36,qV q14,fun (x:(List Path)×Control×Int)=>Zfb x.1 x.2.1 x.2.2⟩
theorem Zxt:Ok gG 188 ZpA:=mkA Tryz.func188 [((265,0),Zxs),((266,0),ZkQ)] [] {tk:= [(1,4),(1,5),(1,8),(3,1),(4,3)],mo:= [(3,0)]} ⟨ZIB,Zpz,trivial⟩
def ZpB:Entry:=⟨aV q19,qV q20,fun (x:(List Path)×Control×(List Want))=>Zb7 x.1 x.2.1 x.2.2⟩
theorem Zxu:Ok gG 189 ZpB:=mkA Tryz.func189 [((95,0),Zgm),((199,0),Q4)] [(3,iR),(127,Zd)] {tk:= [(1,1),(2,3),(9,0),(9,3),(9,4),(11,0),(11,1)],lv:= [(4,⟨[0,7,8,16,17,18],[],[],pV (rCo q2 (rCo q20 (rCo q6 (rCo q11 q3)))),[]⟩)]} ⟨ZkL,Vx,trivial⟩
def ZpC:Entry:=⟨aV q30,qV (rAg ZaC),fun (x:Prio)=>Zb8 x⟩
theorem Zxv:Ok gG 190 ZpC:=mkA Tryz.func190 [] [] {} trivial
def ZpD:Entry:=⟨aV (rCo q2 q9),qV q6,fun (x:(List Path)×Int)=>Zfc x.1 x.2⟩
theorem Zxw:Ok gG 194 ZpD:=mkA Tryz.func194 [] [] {tk:= [(1,1),(4,0),(4,3),(4,4),(6,0),(6,1)],lv:= [(3,⟨[1,5,8,9],[],[],pV (rCo rI (rCo q6 q3)),[]⟩)]} trivial
def Zeb:Entry:=⟨aV q28,qV q6,fun (x:Town)=>ZaV x⟩
theorem Zgs:Ok gG 105 Zeb:=mkA Tryz.func105 [((187,0),Zea),((194,0),ZpD),((95,0),Zgm)] [] {tk:= [(2,3),(3,5)]} ⟨Zgq,Zxw,ZkL,trivial⟩
def ZkR:Entry:=⟨aV (rCo q4 q12),qV rB,fun (x:(List Int)×(List Int))=>Zdq x.1 x.2⟩
theorem ZpE:Ok gG 283 ZkR:=mkA Tryz.func283 [] [(3,iR)] {lv:= [(4,⟨[0,1,12,13],[],[],pV (rCo q4 q35),[]⟩)]} trivial
def Zxx:Entry:=⟨aV (rCo q8 (rCo rI q12)),qV (rTu (rCo q23 q16)),fun (x:(List Note)×Int×(List Int))=>QA x.1 x.2.1 x.2.2⟩
theorem ZIC:Ok gG 267 Zxx:=mkA Tryz.func267 [((283,0),ZkR),((94,0),Zpu),((91,0),ZkG),((175,0),Zd8),((182,0),X3)] [(134,(Zg .shr))] {tk:= [(2,4),(2,6),(3,19)]} ⟨ZpE,Zw7,Zpm,Zgn,Qj,trivial⟩
def Zgt:Entry:=⟨aV (Zb q17),qV q17,fun (x:Town)=>Vi x⟩
theorem ZkS:Ok gG 191 Zgt:=mkA Tryz.func191 [((105,0),Zeb),((267,0),Zxx)] [(134,(Zg .shr))] {tk:= [(0,0),(1,2),(7,6),(7,7),(7,9),(9,0),(9,2),(10,1),(13,4),(13,6),(13,7),(13,10),(14,1)],mo:= [(10,0),(14,0)]} ⟨Zgs,ZIC,trivial⟩
def Zxy:Entry:=⟨aV (rCo q1 q9),qV (rTu q5),fun (x:Town×Int)=>ZiI x.1 x.2⟩
theorem ZID:Ok gG 100 Zxy:=mkA Tryz.func100 [((96,0),Zag),((186,0),ZkO),((38,0),Jx),((187,0),Zea),((188,0),ZpA),((189,0),ZpB),((190,0),ZpC),((191,0),Zgt),((184,0),ZcJ)] [] {tk:= [(2,2),(3,3),(6,7),(7,8),(9,2),(9,3),(9,4),(9,6)],mo:= [(9,1)],ao:= [9]} ⟨Zbu,Zpy,Kr,Zgq,Zxt,Zxu,Zxv,ZkS,Zd9,trivial⟩
def Zxz:Entry:=⟨aV (rCo q1 (rCo rI (rCo rI q16))),qV (rTu q5),fun (x:Town×Int×Int×Bool)=>Zfd x.1 x.2.1 x.2.2.1 x.2.2.2⟩
theorem ZIE:Ok gG 101 Zxz:=mkA Tryz.func101 [((96,0),Zag),((38,0),Jx),((191,0),Zgt),((184,0),ZcJ)] [(131,Zu)] {tk:= [(2,2),(3,3),(13,7),(13,9),(14,2),(14,3),(14,4),(14,6)],hb:= [((3,1),2),((5,1),1),((5,2),7),((7,1),8),((7,2),10),((9,1),1),((9,4),8),((9,5),9),((9,6),11),((13,1),12),((14,1),12)],ao:= [14],rt:= [((3,1),(rAg (Ys .unq .unq .unq .unq .unq .unq .unq)))],lv:= [(6,⟨[1,2,3,11,23,24],[(4,4,false),(8,8,false),(10,10,false)],[(4,13,false,false),(8,13,false,false),(10,13,false,false)],pVO (rCo rI (rCo rI (rCo rB (rCo rB q3)))) (XO (Ys .shr .shr .shr .shr .shr .shr .shr) (XO (Ys .own .own .own .own .own .own .own) (Yu (Ys .unq .unq .unq .unq .unq .unq .unq)))),[(22,10,0,8)]⟩)]} ⟨Zbu,Kr,ZkS,Zd9,trivial⟩
def ZxA:Entry:=⟨aV (rCo q1 q16),qV (rTu q5),fun (x:Town×Bool)=>ZiJ x.1 x.2⟩
theorem ZIF:Ok gG 102 ZxA:=mkA Tryz.func102 [((96,0),Zag),((38,0),Jx),((191,0),Zgt),((184,0),ZcJ)] [] {tk:= [(2,2),(3,3),(5,2),(5,3),(5,4),(5,6)],mo:= [(5,1)],ao:= [5]} ⟨Zbu,Kr,ZkS,Zd9,trivial⟩
def ZkT:Entry:=⟨aV q25,qV rB,fun (x:(List Path)×Control)=>Zb9 x.1 x.2⟩
theorem ZpF:Ok gG 349 ZkT:=mkA Tryz.func349 [((176,0),Ku),((196,0),Zgr)] [] {} ⟨Zaf,ZkP,trivial⟩
def ZxB:Entry:=⟨aV (rCo q2 (rCo q7 q30)),qV rS,fun (x:(List Path)×Control×Prio)=>ZiK x.1 x.2.1 x.2.2⟩
theorem ZIG:Ok gG 318 ZxB:=mkA Tryz.func318 [((176,0),Ku),((179,0),Zgp),((177,0),Kt),((349,0),ZkT)] [] {} ⟨Zaf,ZkN,Zae,ZpF,trivial⟩
def ZpG:Entry:=⟨aV (rCo q2 (rCo q7 q12)),qV (rTu (rCo q14 q16)),fun (x:(List Path)×Control×(List Int))=>Zfe x.1 x.2.1 x.2.2⟩
theorem ZxC:Ok gG 319 ZpG:=mkA Tryz.func319 [((90,0),Zd5),((349,0),ZkT),((254,0),ZcI),((283,0),ZkR),((257,0),Zgl),((167,0),Zad)] [] {tk:= [(1,3),(3,1),(6,4),(7,1),(8,2),(8,3)],mo:= [(3,0),(7,0)]} ⟨Zgj,ZpF,Zd7,ZpE,ZkK,Zbs,trivial⟩
def ZxD:Entry:=⟨aV (rCo q11 q12),qV rI,fun (x:(List Want)×(List Int))=>ZiL x.1 x.2⟩
theorem ZIH:Ok gG 376 ZxD:=mkA Tryz.func376 [((177,0),Kt)] [(127,Zd)] {lv:= [(4,⟨[1,6,10,11,12],[(5,5,false)],[(5,2,false,false)],pVO (rCo q4 (rCo rB (rCo q11 q3))) (Yu Zd),[]⟩)]} ⟨Zae,trivial⟩
def ZpH:Entry:=⟨aV q19,qV q6,fun (x:(List Path)×Control×(List Want))=>Zff x.1 x.2.1 x.2.2⟩
theorem ZxE:Ok gG 351 ZpH:=mkA Tryz.func351 [((376,0),ZxD),((176,0),Ku),((178,0),Zgo),((172,0),ZkI)] [] {tk:= [(3,1),(4,4)]} ⟨ZIH,Zaf,ZkM,Zpq,trivial⟩
def ZxF:Entry:=⟨aV (rCo (rAg Zd) (Zb (rRp (Qv .shr .shr)))),qV rB,fun (x:Want×Control)=>ZiM x.1 x.2⟩
theorem ZII:Ok gG 375 ZxF:=mkA Tryz.func375 [((177,0),Kt)] [] {} ⟨Zae,trivial⟩
def ZxG:Entry:=⟨aV (rCo q11 (Zb (rFn 375 (Zb (rRp (Qv .shr .shr)))))),qV rI,fun (x:(List Want)×Control)=>ZmV x.1 x.2⟩
theorem ZIJ:Ok gG 312 ZxG:=mkA Tryz.func312 [((375,0),ZxF)] [(127,Zd)] {lv:= [(2,⟨[0,1,7,8],[],[],pV (rCo q11 (rCo (rFn 375 (Zb (rRp (Qv .shr .shr)))) q3)),[]⟩)]} ⟨ZII,trivial⟩
def ZxH:Entry:=⟨aV (rCo q11 (Zb (rFn 375 (Zb (rRp (Qv .shr .shr)))))),qV rB,fun (x:(List Want)×Control)=>ZiN x.1 x.2⟩
theorem ZIK:Ok gG 261 ZxH:=mkA Tryz.func261 [((312,1),ZxG)] [] {vr:= [((1,2),1)]} ⟨ZIJ,trivial⟩
def ZxI:Entry:=⟨aV q19,qV rB,fun (x:(List Path)×Control×(List Want))=>ZiO x.1 x.2.1 x.2.2⟩
theorem ZIL:Ok gG 350 ZxI:=mkA Tryz.func350 [((349,0),ZkT),((351,0),ZpH),((261,1),ZxH)] [] {vr:= [((3,6),1)]} ⟨ZpF,ZxE,ZIK,trivial⟩
def ZxJ:Entry:=⟨aV q19,qV q14,fun (x:(List Path)×Control×(List Want))=>ZiP x.1 x.2.1 x.2.2⟩
theorem ZIM:Ok gG 320 ZxJ:=mkA Tryz.func320 [((350,0),ZxI),((351,0),ZpH),((319,0),ZpG),((266,0),ZkQ)] [] {tk:= [(2,7),(2,8),(2,11),(3,1),(4,3)],mo:= [(3,0)]} ⟨ZIL,ZxE,ZxC,Zpz,trivial⟩
def ZxK:Entry:=⟨aV (rCo q2 (rCo q7 (rCo q11 q30))),qV (rTu (rCo q14 (rCo q20 q30))),fun (x:(List Path)×Control×(List Want)×Prio)=>ZiQ x.1 x.2.1 x.2.2.1 x.2.2.2⟩
theorem ZIN:Ok gG 268 ZxK:=mkA Tryz.func268 [((176,0),Ku),((178,0),Zgo),((179,0),Zgp),((90,0),Zd5),((88,0),ZkF),((318,0),ZxB),((266,0),ZkQ),((172,0),ZkI),((319,0),ZpG),((320,0),ZxJ),((189,0),ZpB),((190,0),ZpC)] [] {tk:= [(2,5),(2,6),(3,2),(5,4),(7,3),(9,8),(9,9),(9,11),(10,8)],hb:= [((10,0),1),((10,7),6)]} ⟨Zaf,ZkM,ZkN,Zgj,Zpl,ZIG,Zpz,Zpq,ZxC,ZIM,Zxu,Zxv,trivial⟩
def ZxL:Entry:=⟨aV q28,qV (rTu q5),fun (x:Town)=>Zfg x⟩
theorem ZIO:Ok gG 192 ZxL:=mkA Tryz.func192 [((96,0),Zag),((38,0),Jx),((187,0),Zea),((268,0),ZxK),((191,0),Zgt),((184,0),ZcJ)] [] {tk:= [(2,2),(3,3),(6,9),(6,10),(6,11),(6,14),(6,16),(7,2),(7,3),(7,4),(7,6)],mo:= [(7,1)],ao:= [7]} ⟨Zbu,Kr,Zgq,ZIN,ZkS,Zd9,trivial⟩
def ZxM:Entry:=⟨aV (rCo q1 q9),qV (rTu q5),fun (x:Town×Int)=>ZiR x.1 x.2⟩
theorem ZIP:Ok gG 103 ZxM:=mkA Tryz.func103 [((182,0),X3),((38,0),Jx),((192,0),ZxL)] [] {tk:= [(2,2),(6,2),(6,3),(6,5),(8,2),(10,1)],mo:= [(10,0)],pl:= [5],lv:= [(5,⟨[14,15],[(2,2,false),(4,4,false),(6,6,false)],[(2,13,false,false),(4,13,false,false),(6,13,false,false)],pVO q3 (XO (Ys .shr .shr .shr .shr .shr .shr .shr) (XO (Ys .own .own .own .own .own .own .own) (Yu (Ys .own .own .own .own .own .own .own)))),[]⟩)]} ⟨Qj,Kr,ZIO,trivial⟩
def ZxN:Entry:=⟨aV (rCo q1 (rCo rS q12)),qV (rTu (rCo q1 (rCo rB q16))),fun (x:Town×ByteArray×(List Int))=>XB x.1 x.2.1 x.2.2⟩
theorem ZIQ:Ok gG 44 ZxN:=mkA Tryz.func44 [((98,0),Zxk),((99,0),Zxm),((100,0),Zxy),((101,0),Zxz),((102,0),ZxA),((103,0),ZxM)] [(3,iR)] {tk:= [(5,5),(5,6),(5,8),(7,5),(7,6),(7,8),(9,5),(9,6),(9,8),(12,10),(12,11),(12,13),(14,6),(14,7),(14,9),(16,5),(16,6),(16,8),(17,2)],mo:= [(17,0)]} ⟨ZIt,ZIv,ZID,ZIE,ZIF,ZIP,trivial⟩
def Zgu:Entry:=⟨aV (rCo q15 q27),qV rS,fun (x:(List ByteArray)×ByteArray)=>Jc x.1 x.2⟩
theorem ZkU:Ok gG 193 Zgu:=mkA Tryz.func193 [((269,0),Zve)] [] {} ⟨ZGM,trivial⟩
def ZpI:Entry:=⟨aV q12,qV rS,fun (x:List Int)=>Zca x⟩
theorem ZxO:Ok gG 104 ZpI:=mkA Tryz.func104 [((193,0),Zgu)] [(3,iR)] {tk:= [(1,1),(13,0),(13,3),(13,4),(15,0)],lv:= [(3,⟨[3,8,9,10],[],[],pV (rCo q18 q35),[]⟩)]} ⟨ZkU,trivial⟩
def ZxP:Entry:=⟨aV (rCo q13 (Zb (rAg Zu))),qV rI,fun (x:(List Lamp)×Lamp)=>ZmW x.1 x.2⟩
theorem ZIR:Ok gG 354 ZxP:=mkA Tryz.func354 [] [(131,Zu)] {lv:= [(2,⟨[0,7,8],[(3,3,false)],[(3,3,false,false)],pVO (rCo q13 q3) (Yu Zu),[]⟩)]} trivial
def ZxQ:Entry:=⟨aV (rCo q13 (Zb (rAg Zu))),qV rB,fun (x:(List Lamp)×Lamp)=>ZmX x.1 x.2⟩
theorem ZIS:Ok gG 324 ZxQ:=mkA Tryz.func324 [((354,0),ZxP)] [] {} ⟨ZIR,trivial⟩
def ZxR:Entry:=⟨aV (rCo q13 q3),qV rB,fun (x:(List Lamp)×Int×Int)=>Zfh x.1 x.2.1 x.2.2⟩
theorem ZIT:Ok gG 270 ZxR:=mkA Tryz.func270 [((324,0),ZxQ)] [] {} ⟨ZIS,trivial⟩
def ZxS:Entry:=⟨aV (rCo q2 (rCo q13 q12)),qV q6,fun (x:(List Path)×(List Lamp)×(List Int))=>ZiS x.1 x.2.1 x.2.2⟩
theorem ZIU:Ok gG 195 ZxS:=mkA Tryz.func195 [((270,0),ZxR)] [(3,iR),(106,Zi)] {tk:= [(1,1),(3,0),(3,1),(10,0),(10,3),(10,4),(12,0),(12,1)],lv:= [(5,⟨[1,2,7,18,19,20],[],[],pV (rCo q13 (rCo q4 (rCo q6 q24))),[]⟩)]} ⟨ZIT,trivial⟩
def ZxT:Entry:=⟨aV q28,qV q6,fun (x:Town)=>ZiT x⟩
theorem ZIV:Ok gG 106 ZxT:=mkA Tryz.func106 [((187,0),Zea),((194,0),ZpD),((105,0),Zeb),((195,0),ZxS)] [] {tk:= [(2,3),(3,7)]} ⟨Zgq,Zxw,Zgs,ZIU,trivial⟩
def Zgv:Entry:=⟨aV q12,qV rS,fun (x:List Int)=>JY x⟩
theorem ZkV:Ok gG 111 Zgv:=mkA Tryz.func111 [((114,0),Zbt),((193,0),Zgu)] [(3,iR)] {tk:= [(1,1),(5,0),(5,4),(5,5),(7,0)],lv:= [(3,⟨[3,7,8,9],[],[],pV (rCo q18 q35),[]⟩)]} ⟨ZcG,ZkU,trivial⟩
def ZxU:Entry:=⟨aV (Zb q7),qV rS,fun (x:Control)=>ZiU x⟩
theorem ZIW:Ok gG 107 ZxU:=mkA Tryz.func107 [((111,0),Zgv),((114,0),Zbt)] [] {} ⟨ZkV,ZcG,trivial⟩
def ZxV:Entry:=⟨aV q32,qV rS,fun (x:List Path)=>ZiV x⟩
theorem ZIX:Ok gG 108 ZxV:=mkA Tryz.func108 [((169,0),Zpo),((193,0),Zgu)] [(106,Zi)] {tk:= [(1,1),(5,0),(5,4),(5,5),(7,0)],lv:= [(3,⟨[3,7,8,9],[],[],pV (rCo q18 q24),[]⟩)]} ⟨ZwH,ZkU,trivial⟩
def ZxW:Entry:=⟨aV (rCo q2 (Zb q22)),qV rB,fun (x:((List Path)×(List (List Int))))=>ZiW x.1 x.2⟩
theorem ZIY:Ok gG 271 ZxW:=mkA Tryz.func271 [((170,0),Jy),((254,0),ZcI),((171,0),Zpp)] [(29,q12),(106,Zi)] {lv:= [(4,⟨[0,1,12,13,14],[],[],pV (rCo q2 (rCo q22 (rCo q22 q3))),[]⟩),(10,⟨[1,23,24,25],[],[],pV (rCo q22 q24),[]⟩)]} ⟨Ks,Zd7,ZwO,trivial⟩
def ZpJ:Entry:=⟨aV (rCo q2 (Zb q10)),qV rB,fun (x:(List Path)×(List Part))=>Zfi x.1 x.2⟩
theorem ZxX:Ok gG 197 ZpJ:=mkA Tryz.func197 [((182,0),X3),((254,0),ZcI),((196,0),Zgr),((271,0),ZxW)] [(195,(ZJ .shr))] {tk:= [(3,1),(9,0),(9,4),(9,5),(11,1)],lv:= [(5,⟨[0,5,13,14,15],[],[],pV (rCo q2 (rCo (rX .own 1 q12) (rCo q10 q3))),[]⟩)]} ⟨Qj,Zd7,ZkP,ZIY,trivial⟩
def ZxY:Entry:=⟨aV q32,qV (rX .own 2 (ZJ .shr)),fun (x:List Path)=>Zfj x⟩
theorem ZIZ:Ok gG 110 ZxY:=mkA Tryz.func110 [((93,0),Zpr),((196,0),Zgr),((197,0),ZpJ)] [(29,q12)] {tk:= [(1,1),(5,0),(5,7),(5,8),(8,1),(9,0),(9,1)],lv:= [(3,⟨[0,3,8,9,10],[],[],pV (rCo q2 (rCo (rX .own 2 (ZJ .shr)) (rCo q33 q3))),[]⟩)]} ⟨ZwZ,ZkP,ZxX,trivial⟩
def ZxZ:Entry:=⟨aV (Zb q10),qV rS,fun (x:List Part)=>Zfk x⟩
theorem ZI0:Ok gG 109 ZxZ:=mkA Tryz.func109 [((111,0),Zgv),((114,0),Zbt),((193,0),Zgu)] [(195,(ZJ .shr))] {tk:= [(1,1),(5,0),(5,10),(5,11),(7,0)],lv:= [(3,⟨[3,7,8,9],[],[],pV (rCo q18 (rCo q10 q3)),[]⟩)]} ⟨ZkV,ZcG,ZkU,trivial⟩
def Zx0:Entry:=⟨aV q32,qV q22,fun (x:List Path)=>ZiX x⟩
theorem ZI1:Ok gG 198 Zx0:=mk Tryz.func198 (by kernel_rfl) [((170,0),Jy),((200,0),ZcH)] [((272,0),Zu8)] n0 [(106,Zi)] {tk:= [(1,1),(3,0),(3,1),(18,2),(26,0),(26,4),(26,5),(29,0),(29,1),(29,2),(29,4)],hb:= [((1,0),17),((3,1),4),((29,3),18),((30,0),20),((30,1),21),((31,0),22)],vr:= [((29,3),1)],ro:= [(22,iR)],lv:= [(6,⟨[0,3,23,24,25],[(4,22,true)],[(22,1,true,false)],pVO (rCo q2 (rCo (rX .unq 1 (Zb q6)) q24)) (ZcK iR),[]⟩),(9,⟨[0,3,5,23,24,25,30,31,32],[(4,22,true),(6,6,false)],[(6,4,false,false),(22,1,true,false)],pVO (rCo q2 (rCo (rX .unq 1 (Zb q6)) (rCo rI (rCo q2 (rCo rI (rCo rI q24)))))) (XO Zi (ZcK iR)),[]⟩),(16,⟨[0,3,9],[(4,22,true)],[(22,1,true,false)],pVO (rCo q2 (rCo (rX .unq 1 (Zb q6)) q9)) (ZcK iR),[]⟩),(20,⟨[0,3,9,10,11,58,59,60],[(4,22,true)],[(22,1,true,false)],pVO (rCo q2 (rCo (rX .unq 1 (Zb q6)) (rCo rI (rCo rB (rCo q6 q24))))) (ZcK iR),[]⟩)]} ⟨Ks,Zd6,trivial⟩ ⟨ZGH,trivial⟩ (fun x=>by kernel_rfl)
def Zx1:Entry:=⟨aV q32,qV q6,fun (x:List Path)=>ZiY x⟩
theorem ZI2:Ok gG 112 Zx1:=mkA Tryz.func112 [((198,0),Zx0)] [(29,q12)] {tk:= [(1,1),(5,0),(5,4),(5,5),(7,0),(7,1)],lv:= [(3,⟨[3,8,9,10],[],[],pV (rCo q6 (rCo q22 q3)),[]⟩)]} ⟨ZI1,trivial⟩
def Zx2:Entry:=⟨aV (rCo q2 q9),qV q6,fun (x:(List Path)×Int)=>ZiZ x.1 x.2⟩
theorem ZI3:Ok gG 113 Zx2:=mkA Tryz.func113 [((199,0),Q4),((170,0),Jy),((200,0),ZcH)] [(106,Zi)] {tk:= [(1,1),(4,0),(4,1),(9,0),(9,4),(9,5),(11,0),(11,1)],lv:= [(6,⟨[0,5,6,21,22,23],[],[],pV (rCo q2 (rCo q6 (rCo rI q24))),[]⟩)]} ⟨Vx,Ks,Zd6,trivial⟩
def ZpK:Entry:=⟨aV (rCo q10 q9),qV q4,fun (x:(List Part)×Int)=>Zfl x.1 x.2⟩
theorem Zx3:Ok gG 370 ZpK:=mkA Tryz.func370 [] [(195,(ZJ .shr))] {} trivial
def ZpL:Entry:=⟨aV q26,qV rI,fun (x:(List Path)×(List Part)×Int)=>Zdr x.1 x.2.1 x.2.2⟩
theorem Zx4:Ok gG 329 ZpL:=mkA Tryz.func329 [((370,0),ZpK),((257,0),Zgl)] [(195,(ZJ .shr))] {} ⟨Zx3,ZkK,trivial⟩
def ZpM:Entry:=⟨aV (rCo q2 (Zb q10)),qV rI,fun (x:(List Path)×(List Part))=>Zfm x.1 x.2⟩
theorem Zx5:Ok gG 280 ZpM:=mkA Tryz.func280 [((197,0),ZpJ),((329,0),ZpL)] [] {lv:= [(5,⟨[0,1,5,12,13],[],[],pV (rCo q2 (rCo q10 q21)),[]⟩)]} ⟨ZxX,Zx4,trivial⟩
def Zx6:Entry:=⟨aV q26,qV (rTu q3),fun (x:(List Path)×(List Part)×Int)=>Zi0 x.1 x.2.1 x.2.2⟩
theorem ZI4:Ok gG 371 Zx6:=mkA Tryz.func371 [((280,0),ZpM),((182,0),X3),((329,0),ZpL)] [] {lv:= [(6,⟨[0,1,9,10],[],[],pV (rCo q2 (rCo q10 q3)),[]⟩)]} ⟨Zx5,Qj,Zx4,trivial⟩
def Zx7:Entry:=⟨aV (rCo q2 (rCo q10 (rCo rI q31))),qV rI,fun (x:(List Path)×(List Part)×Int×Path)=>ZmY x.1 x.2.1 x.2.2.1 x.2.2.2⟩
theorem ZI5:Ok gG 330 Zx7:=mkA Tryz.func330 [((371,0),Zx6),((177,0),Kt),((370,0),ZpK),((311,0),ZkJ)] [(195,(ZJ .shr))] {} ⟨ZI4,Zae,Zx3,Zps,trivial⟩
def Zx8:Entry:=⟨aV (rCo q2 (rCo q10 q3)),qV rI,fun (x:(List Path)×(List Part)×Int×Int)=>Zi1 x.1 x.2.1 x.2.2.1 x.2.2.2⟩
theorem ZI6:Ok gG 281 Zx8:=mkA Tryz.func281 [((199,0),Q4),((330,0),Zx7)] [(106,Zi)] {} ⟨Vx,ZI5,trivial⟩
def Zx9:Entry:=⟨aV q26,qV (rX .own 1 bR),fun (x:(List Path)×(List Part)×Int)=>Zds x.1 x.2.1 x.2.2⟩
theorem ZI7:Ok gG 202 Zx9:=mkA Tryz.func202 [((199,0),Q4),((280,0),ZpM),((281,0),Zx8)] [] {ro:= [(16,bR)],lv:= [(5,⟨[0,1,2,18,19],[(7,16,true)],[(16,1,true,false)],pVO (rCo q2 (rCo q10 q21)) (ZcK bR),[]⟩)]} ⟨Vx,Zx5,ZI6,trivial⟩
def Zya:Entry:=⟨aV q26,qV rI,fun (x:(List Path)×(List Part)×Int)=>Zdt x.1 x.2.1 x.2.2⟩
theorem ZI8:Ok gG 115 Zya:=mkA Tryz.func115 [((202,0),Zx9)] [(4,bR)] {tk:= [(1,4),(11,1)],lv:= [(4,⟨[7,8,9,17,18],[],[],pV (rCo (rX .own 1 bR) (rCo rI q21)),[]⟩)]} ⟨ZI7,trivial⟩
def Zyb:Entry:=⟨aV q36,qV rI,fun (x:(List Path)×Control×Int)=>Zi2 x.1 x.2.1 x.2.2⟩
theorem ZI9:Ok gG 116 Zyb:=mkA Tryz.func116 [((176,0),Ku),((186,0),ZkO),((199,0),Q4),((95,0),Zgm),((188,0),ZpA)] [(3,iR)] {tk:= [(5,4)],lv:= [(4,⟨[0,2,7,8],[(4,4,false)],[(4,4,false,false)],pVO (rCo q2 q21) (Yu (Qv .shr .shr)),[]⟩)]} ⟨Zaf,Zpy,Vx,ZkL,Zxt,trivial⟩
def ZkW:Entry:=⟨aV (rCo q8 q9),qV rI,fun (x:(List Note)×Int)=>Zdu x.1 x.2⟩
theorem ZpN:Ok gG 203 ZkW:=mkA Tryz.func203 [((175,0),Zd8)] [(134,(Zg .shr))] {lv:= [(5,⟨[1,5,12,13,14],[],[],pV (rCo rI (rCo rI (rCo q8 q3))),[]⟩)]} ⟨Zgn,trivial⟩
def ZpO:Entry:=⟨aV (rCo q8 q9),qV (rTu (rCo q6 q16)),fun (x:(List Note)×Int)=>Zfn x.1 x.2⟩
theorem Zyc:Ok gG 117 ZpO:=mkA Tryz.func117 [((203,0),ZkW),((167,0),Zad)] [(134,(Zg .shr))] {tk:= [(3,1),(4,6)]} ⟨ZpN,Zbs,trivial⟩
def ZpP:Entry:=⟨aV (rCo (rAg (Zg .shr)) q9),qV rI,fun (x:Note×Int)=>Zdv x.1 x.2⟩
theorem Zyd:Ok gG 282 ZpP:=mkA Tryz.func282 [] [(3,iR)] {} trivial
def Zye:Entry:=⟨aV (rCo q8 q3),qV rI,fun (x:(List Note)×Int×Int)=>Zfo x.1 x.2.1 x.2.2⟩
theorem ZJa:Ok gG 204 Zye:=mkA Tryz.func204 [((203,0),ZkW),((282,0),ZpP)] [(134,(Zg .shr))] {} ⟨ZpN,Zyd,trivial⟩
def Zyf:Entry:=⟨aV (rCo q8 q3),qV rI,fun (x:(List Note)×Int×Int)=>Zi3 x.1 x.2.1 x.2.2⟩
theorem ZJb:Ok gG 205 Zyf:=mkA Tryz.func205 [((203,0),ZkW),((282,0),ZpP)] [(134,(Zg .shr))] {lv:= [(4,⟨[0,1,2,7],[],[],pV (rCo q8 q21),[]⟩)]} ⟨ZpN,Zyd,trivial⟩
def Zyg:Entry:=⟨aV (rCo q1 q3),qV (rTu (rCo (rAg XW) q16)),fun (x:Town×Int×Int)=>Zdw x.1 x.2.1 x.2.2⟩
theorem ZJc:Ok gG 118 Zyg:=mkA Tryz.func118 [((199,0),Q4),((96,0),Zag),((204,0),Zye),((205,0),Zyf),((200,0),ZcH)] [(106,Zi)] {lv:= [(8,⟨[2,8,48,49,50],[(3,3,false),(6,6,false),(9,9,false)],[(3,13,false,false),(6,5,false,false),(9,5,false,false)],pVO (rCo rI (rCo rI q24)) (XO (Ys .shr .shr .shr .shr .shr .shr .shr) (XO XW (Yu XW))),[]⟩)]} ⟨Vx,Zbu,ZJa,ZJb,Zd6,trivial⟩
def Zyh:Entry:=⟨aV (Zb (rAg XW)),qV rS,fun (x:Report)=>Zi4 x⟩
theorem ZJd:Ok gG 119 Zyh:=mkA Tryz.func119 [((114,0),Zbt),((104,0),ZpI)] [] {} ⟨ZcG,ZxO,trivial⟩
def Zyi:Entry:=⟨aV (rCo (rAg XW) (Zb (rAg XW))),qV rS,fun (x:Report×Report)=>Zi5 x.1 x.2⟩
theorem ZJe:Ok gG 120 Zyi:=mkA Tryz.func120 [((182,0),X3)] [] {} ⟨Qj,trivial⟩
def Zyj:Entry:=⟨aV q9,qV rS,fun (x:Int)=>ZmZ x⟩
theorem ZJf:Ok gG 206 Zyj:=mkA Tryz.func206 [] [] {} trivial
def Zyk:Entry:=⟨aV q28,qV rS,fun (x:Town)=>Zi6 x⟩
theorem ZJg:Ok gG 121 Zyk:=mkA Tryz.func121 [((114,0),Zbt),((187,0),Zea),((206,0),Zyj),((111,0),Zgv)] [] {} ⟨ZcG,Zgq,ZJf,ZkV,trivial⟩
def Zyl:Entry:=⟨aV q28,qV rB,fun (x:Town)=>Zi7 x⟩
theorem ZJh:Ok gG 207 Zyl:=mkA Tryz.func207 [((105,0),Zeb),((260,0),Zpx)] [] {} ⟨Zgs,Zxa,trivial⟩
def Zym:Entry:=⟨aV q28,qV rB,fun (x:Town)=>Zi8 x⟩
theorem ZJi:Ok gG 208 Zym:=mkA Tryz.func208 [((117,0),ZpO),((105,0),Zeb),((283,0),ZkR)] [] {tk:= [(1,5),(1,6),(1,8),(2,2)]} ⟨Zyc,Zgs,ZpE,trivial⟩
def Zyn:Entry:=⟨aV q32,qV rI,fun (x:List Path)=>Zi9 x⟩
theorem ZJj:Ok gG 331 Zyn:=mkA Tryz.func331 [((170,0),Jy),((311,0),ZkJ)] [(106,Zi)] {lv:= [(5,⟨[3,10,11,12],[],[],pV (rCo rI q24),[]⟩)]} ⟨Ks,Zps,trivial⟩
def Zyo:Entry:=⟨aV q32,qV rI,fun (x:List Path)=>Zja x⟩
theorem ZJk:Ok gG 284 Zyo:=mkA Tryz.func284 [((331,0),Zyn)] [] {} ⟨ZJj,trivial⟩
def Zyp:Entry:=⟨aV q28,qV rB,fun (x:Town)=>Zjb x⟩
theorem ZJl:Ok gG 209 Zyp:=mkA Tryz.func209 [((284,0),Zyo)] [(127,Zd)] {lv:= [(2,⟨[6,7,8],[(1,1,false)],[(1,13,false,false)],pVO (rCo q11 q3) (Yu (Ys .shr .shr .shr .shr .shr .shr .shr)),[]⟩)]} ⟨ZJk,trivial⟩
def Zyq:Entry:=⟨aV q28,qV rS,fun (x:Town)=>Zjc x⟩
theorem ZJm:Ok gG 122 Zyq:=mkA Tryz.func122 [((96,0),Zag),((207,0),Zyl),((208,0),Zym),((209,0),Zyp)] [] {} ⟨Zbu,ZJh,ZJi,ZJl,trivial⟩
def Zyr:Entry:=⟨aV (rCo q1 (rCo rS q12)),qV rS,fun (x:Town×ByteArray×(List Int))=>YI x.1 x.2.1 x.2.2⟩
theorem ZJn:Ok gG 45 Zyr:=mkA Tryz.func45 [((105,0),Zeb),((104,0),ZpI),((106,0),ZxT),((107,0),ZxU),((108,0),ZxV),((110,0),ZxY),((109,0),ZxZ),((112,0),Zx1),((111,0),Zgv),((113,0),Zx2),((115,0),Zya),((114,0),Zbt),((116,0),Zyb),((117,0),ZpO),((118,0),Zyg),((119,0),Zyh),((120,0),Zyi),((121,0),Zyk),((122,0),Zyq)] [(3,iR)] {tk:= [(21,6),(21,7),(21,9),(23,0)]} ⟨Zgs,ZxO,ZIV,ZIW,ZIX,ZIZ,ZI0,ZI2,ZkV,ZI3,ZI8,ZcG,ZI9,Zyc,ZJc,ZJd,ZJe,ZJg,ZJm,trivial⟩
def Zys:Entry:=⟨aV (rCo q1 q27),qV (rTu (rCo q1 q27)),fun (x:Town×ByteArray)=>Zcb x.1 x.2⟩
theorem ZJo:Ok gG 13 Zys:=mkA Tryz.func13 [((17,0),ZoV),((38,0),Jx),((39,0),ZwJ),((40,0),Zxc),((41,0),Zxd),((43,0),Zxe),((42,0),Zxf),((44,0),ZxN),((45,0),Zyr)] [(3,iR),(9,sR)] {tk:= [(1,1),(6,0),(6,3),(6,4),(9,2),(11,0),(13,2),(14,2),(14,3),(14,6),(18,2),(21,3),(21,8)],mo:= [(15,1)],lv:= [(3,⟨[1,6,20,21,22],[(2,2,false),(4,4,false)],[(2,13,false,false),(4,13,false,false)],pVO (rCo rS (rCo q18 (rCo q15 q3))) (XO (Ys .shr .shr .shr .shr .shr .shr .shr) (Yu (Ys .own .own .own .own .own .own .own))),[]⟩)]} ⟨Zu9,Kr,ZHZ,ZIl,ZIm,ZIn,ZIo,ZIQ,ZJn,trivial⟩
def Zyt:Entry:=⟨aV q27,qV (rTu (rCo q18 q16)),fun (x:ByteArray)=>Zfp x⟩
theorem ZJp:Ok gG 6 Zyt:=mkA Tryz.func6 [((17,0),ZoV),((13,0),Zys)] [(9,sR)] {tk:= [(6,3),(6,4),(12,0),(12,3),(12,4),(14,0),(14,1)],lv:= [(8,⟨[6,29,30,31],[(5,5,false)],[(5,13,false,false)],pVO (rCo q18 (rCo q15 q3)) (Yu (Ys .shr .shr .shr .shr .shr .shr .shr)),[]⟩)]} ⟨Zu9,ZJo,trivial⟩
def Zyu:Entry:=⟨aV (rCo q15 (Zb q15)),qV rB,fun (x:(List ByteArray)×(List ByteArray))=>Zfq x.1 x.2⟩
theorem ZJq:Ok gG 7 Zyu:=mkA Tryz.func7 [] [(9,sR)] {lv:= [(4,⟨[0,1,5],[],[],pV (rCo q15 (rCo q15 q9)),[]⟩)]} trivial
def ZpQ:Entry:=⟨aV q9,qV rS,fun (x:Int)=>Zcc x⟩
theorem Zyv:Ok gG 18 ZpQ:=mkA Tryz.func18 [] [] {lv:= [(4,⟨[0,3],[],[],pV (rCo rI q27),[]⟩)]} trivial
def Zyw:Entry:=⟨aV (rCo (rX .unq 1 sR) q9),qV (rTu (rCo rI (Zb (rX .unq 1 sR)))),fun (x:(List ByteArray)×Int)=>Zjd x.1 x.2⟩
theorem ZJr:OkU gG 8 Zyw:=mkU Tryz.func8 (by kernel_rfl) [((18,0),ZpQ)] [] n0 [] {ro:= [(0,sR)],lv:= [(2,⟨[1,5],[(0,0,true)],[(0,1,true,false)],pVO q3 (ZcK sR),[]⟩)]} ⟨Zyv,trivial⟩ trivial (fun x=>by kernel_rfl)
def Zyx:Entry:=⟨aV (rCo q15 q9),qV rI,fun (x:(List ByteArray)×Int)=>Zfr x.1 x.2⟩
theorem ZJs:Ok gG 9 Zyx:=mkA Tryz.func9 [((18,0),ZpQ)] [(9,sR)] {lv:= [(2,⟨[0,1,5],[],[],pV (rCo q15 q3),[]⟩)]} ⟨Zyv,trivial⟩
def ZkX:Entry:=⟨aV q27,qV rB,fun (x:ByteArray)=>Zm0 x⟩
theorem ZJt:Ok gG 3 ZkX:=mk Tryz.func3 (by kernel_rfl) [((5,0),ZwD),((6,0),Zyt),((7,0),Zyu),((9,0),Zyx)] [((8,0),Zyw)] n0 [] {tk:= [(3,2),(3,3),(3,5),(4,2),(4,3),(15,2),(15,3),(16,1)],hb:= [((4,1),2),((5,2),2),((8,2),3),((10,2),2),((15,1),2),((16,2),2),((19,2),2)],th:= [(4,3),(15,3)],rt:= [((4,1),(rTu (rCo (rX .unq 1 sR) q16))),((15,1),(rTu (rCo (rX .unq 1 sR) q16)))]} ⟨ZHW,ZJp,ZJq,ZJs,trivial⟩ ⟨ZJr,trivial⟩ (fun x=>by kernel_rfl)
end
end Go.Proofs.YtnpgbpkogmniaaaGreatDoor
