/- Part of the proof: see the last text of the claim. -/
import Derived.Test.YtdnmbglemaogcaaGreatDoorInsY
import Derived.Test.YtdnmbglemaogcaaGreatDoorSrtY
import Derived.Test.YtdnmbglemaogcaaGreatDoorShY
import Derived.KernelRfl
import Derived.Test.YtdnmbglemaogcaaGreatDoorRows
set_option linter.all false
namespace Go.Proofs.YtdnmbglemaogcaaGreatDoor
open Go.Fx Go.Sh
set_option maxRecDepth 100000
set_option linter.unusedSectionVars false
def emS:Value:= .string ⟨#[]⟩
def tab:List (Nat×TD):= [(3, .sc (.int .i64 0)),
 (4, .sc (.bool false)),
 (5, .sc (.int .u8 0)),
 (9, .sc emS),
 (22, .sl 5 1),
 (26, .st [(none, .int .i64 0),(none, .int .i64 0),(none, .int .i64 0),(none, .int .i64 0)] [(0,1),(1,1),(2,1),(3,1)]),
 (30, .sc .nilFunc),
 (31, .sl 26 4),
 (32, .sl 3 1),
 (34, .st [(some 1, .slice none 0 0),(none, .int .i64 0),(some 1, .slice none 0 0),(none, .int .i64 0)] [(0,1),(1,1),(2,1),(3,1)]),
 (35, .sl 79 2),
 (37, .st [(none, .int .i64 0),(none, .int .i64 0)] [(0,1),(1,1)]),
 (38, .sl 82 3),
 (39, .sl 85 3),
 (41, .st [(some 4, .slice none 0 0),(some 1, .slice none 0 0),(none, .int .i64 0),(some 1, .slice none 0 0),(none, .int .i64 0),(some 2, .slice none 0 0),(none, .int .i64 0),(none, .int .i64 0),(some 3, .slice none 0 0),(none, .bool false),(some 3, .slice none 0 0),(none, .int .i64 0),(none, .int .i64 0)] [(0,1),(1,4),(5,1),(6,2),(8,1),(9,1),(10,1),(11,1),(12,1)]),
 (46, .sl 9 1),
 (79, .st [(none, .int .i64 0),(none, .int .i64 0)] [(0,1),(1,1)]),
 (82, .st [(none, .int .i64 0),(none, .int .i64 0),(none, .bool false)] [(0,1),(1,1),(2,1)]),
 (85, .st [(none, .int .i64 0),(some 1, .slice none 0 0),(none, .int .i64 0)] [(0,1),(1,1),(2,1)]),
 (87, .sc .nilFunc),
 (90, .st [(some 1, .slice none 0 0),(none, .int .i64 0),(none, .int .i64 0)] [(0,1),(1,1),(2,1)]),
 (100, .sl 32 1),
 (113, .sl 159 2),
 (121, .st [(none, .int .i64 0),(none, .int .i64 0),(none, .int .i64 0),(none, .int .i64 0),(none, .int .i64 0)] [(0,1),(1,1),(2,1),(3,1),(4,1)]),
 (159, .st [(some 1, .slice none 0 0),(none, .int .i64 0)] [(0,1),(1,1)]),
 (163, .sl 4 1),
 (167, .sc (.int .u64 0)),
 (179, .sc .nilFunc),
 (186, .sc .nilFunc),
 (218, .sc .nilFunc)]
theorem Zn7:TOk Tryz.prog (Zbm tab):=Zxg (by kernel_rfl)
theorem mixed:Tryz.prog.follows .mixedOrders=true:=by kernel_rfl
abbrev nG:Nat:=2
class GOk (gG:Nat->Option Obj):Prop where
 max:∃m:Int,∀w:World,(∀b,b < nG->w.heap[b]? =gG b)->w.cell? ⟨0,0,none⟩=some (.int .i64 m)
 tab:∀w:World,(∀b,b < nG->w.heap[b]? =gG b)->Lib.TabIs Tryz.prog w "internal/strconv.uint64pow10" .u64 Lib.pow10Tab
variable {gG:Nat->Option Obj} [GOk gG]
abbrev Ok (gG:Nat->Option Obj) (f:Nat) (en:Entry):Prop:=Vq Tryz.prog nG gG f en
abbrev n0:Nat->Bool:=fun _=>false
abbrev OkU (gG:Nat->Option Obj) (f:Nat) (en:Entry):Prop:=Zlm Tryz.prog nG gG f en
theorem mk {f:Nat} {fn:Func} {en:Entry} (hfn:Tryz.prog.funcs[f]? =some fn) (hname:(fn.name== "runtime.NumGoroutine")=false) (cs us:List ((Nat×Nat)×Entry)) (gs:Nat->Bool) (R:List (Nat×RR)) (h:Hints) (hcs:Zee Tryz.prog nG gG cs) (hus:ZgG Tryz.prog nG gG us)
  (hL:∀x,Zd5 (Zgg (Zbm tab) cs us gs R h fn.ntmps NN) fn en.rs (en.ps.enc x).1 (en.ps.enc x).2=en.S x):Ok gG f en:=Zzy Zn7 mixed hfn hname hcs hus hL
theorem mkA {f:Nat} {fn:Func} {en:Entry} (hfn:Tryz.prog.funcs[f]? =some fn) (cs:List ((Nat×Nat)×Entry)) (R:List (Nat×RR)) (h:Hints) (hcs:Zee Tryz.prog nG gG cs)
  (hname:(fn.name== "runtime.NumGoroutine")=false:=by kernel_rfl) (hL:∀x,Zd5 (Zgg (Zbm tab) cs [] n0 R h fn.ntmps NN) fn en.rs (en.ps.enc x).1 (en.ps.enc x).2=en.S x:=by intro x;kernel_rfl):Ok gG f en:=mk hfn hname cs [] n0 R h hcs trivial hL
noncomputable section
abbrev q1:=rX .shr 4 Zg
abbrev q2:=rAg (YO .shr .shr .shr .shr .shr .shr .shr)
abbrev q3:=rCo rI (Zb rI)
abbrev q4:=rAg (YO .own .own .own .own .own .own .own)
abbrev q5:=rX .shr 1 iR
abbrev q6:=rAg (Xe .shr .shr)
abbrev q7:=rX .shr 3 (Zc .shr)
abbrev q8:=rX .own 1 iR
abbrev q9:=rX .shr 2 Zd
abbrev q10:=Zb rI
abbrev q11:=rX .shr 3 Zq
abbrev q12:=rTu (rCo q4 (Zb rB))
abbrev q13:=rAg (Xe .own .own)
abbrev q14:=rX .shr 2 (Zo .shr)
abbrev q15:=Zb q5
abbrev q16:=rX .own 2 Zd
abbrev q17:=rCo q1 (rCo q6 (Zb q9))
abbrev q18:=Zb rB
abbrev q19:=rX .own 3 (Zc .own)
abbrev q20:=rCo q1 (Zb q6)
abbrev q21:=rCo q1 q3
abbrev q22:=Zb (rRp iR)
abbrev q23:=Zb (rAg Yb)
abbrev q24:=Zb (rAg Zg)
abbrev q25:=rCo rI q3
abbrev q26:=rX .shr 1 q15
abbrev q27:=rCo q5 q3
abbrev q28:=rX .shr 1 sR
def Zt5:Go.Shelf.Ren:=⟨fun | 156=>188 | 165=>240 | 166=>241 | 169=>242 | 240=>276 | 241=>277 | 276=>302 | 277=>303 |n=>n,fun | 31=>46 | 9=>9 | 3=>3 | 4=>4 | 0=>0 | 20=>20 | 72=>222 | 76=>226 | 70=>220 | 37=>22 | 75=>225 | 127=>250 | 164=>265 | 5=>5 | 80=>228 |n=>n,fun n=>n⟩
theorem ZEW:Go.Proofs.Lays.n156 Tryz.prog Zt5 where
 mixed:=by kernel_rfl
 f156:=Tryz.func188.trans (Ux some (by kernel_rfl))
 f165:=Tryz.func240.trans (Ux some (by kernel_rfl))
 f166:=Tryz.func241.trans (Ux some (by kernel_rfl))
 f169:=Tryz.func242.trans (Ux some (by kernel_rfl))
 f240:=Tryz.func276.trans (Ux some (by kernel_rfl))
 f241:=Tryz.func277.trans (Ux some (by kernel_rfl))
 f276:=Tryz.func302.trans (Ux some (by kernel_rfl))
 f277:=Tryz.func303.trans (Ux some (by kernel_rfl))
 t0:=Tryz.underlying0
 a0:=Tryz.isAgg0
 z0:=Tryz.sizeOf0
 v0:=Tryz.zeroValue0
 t3:=Tryz.underlying3
 a3:=Tryz.isAgg3
 z3:=Tryz.sizeOf3
 v3:=Tryz.zeroValue3
 t4:=Tryz.underlying4
 a4:=Tryz.isAgg4
 z4:=Tryz.sizeOf4
 v4:=Tryz.zeroValue4
 t9:=Tryz.underlying9
 a9:=Tryz.isAgg9
 z9:=Tryz.sizeOf9
 v9:=Tryz.zeroValue9
 t20:=Tryz.underlying20
 a20:=Tryz.isAgg20
 z20:=Tryz.sizeOf20
 v20:=Tryz.zeroValue20
 t31:=Tryz.underlying46
 a31:=Tryz.isAgg46
 z31:=Tryz.sizeOf46
 v31:=Tryz.zeroValue46
 t37:=Tryz.underlying22
 a37:=Tryz.isAgg22
 z37:=Tryz.sizeOf22
 v37:=Tryz.zeroValue22
 t70:=Tryz.underlying220
 a70:=Tryz.isAgg220
 z70:=Tryz.sizeOf220
 v70:=Tryz.zeroValue220
 t72:=Tryz.underlying222
 a72:=Tryz.isAgg222
 z72:=Tryz.sizeOf222
 v72:=Tryz.zeroValue222
 t75:=Tryz.underlying225
 a75:=Tryz.isAgg225
 z75:=Tryz.sizeOf225
 v75:=Tryz.zeroValue225
 t76:=Tryz.underlying226
 a76:=Tryz.isAgg226
 z76:=Tryz.sizeOf226
 v76:=Tryz.zeroValue226
 t127:=Tryz.underlying250
 a127:=Tryz.isAgg250
 z127:=Tryz.sizeOf250
 v127:=Tryz.zeroValue250
 t164:=Tryz.underlying265
 a164:=Tryz.isAgg265
 z164:=Tryz.sizeOf265
 v164:=Tryz.zeroValue265
theorem ZEX:Go.Proofs.Builder.Extra Tryz.prog Zt5 where
 sizeBuilder:=by kernel_rfl
 liesBuilder:=by kernel_rfl
 t5:=Tryz.underlying5
 a5:=Tryz.isAgg5
 z5:=Tryz.sizeOf5
 v5:=Tryz.zeroValue5
 infoByte:=by kernel_rfl
 cellsByte:=by kernel_rfl
 sizeByte:=by kernel_rfl
 neB5:=by decide
def ZEY:Go.Shelf.Ren:=⟨fun | 171=>48 | 243=>91 | 246=>148 | 283=>202 | 284=>203 | 285=>204 | 286=>205 | 129=>251 | 317=>250 | 318=>252 | 319=>253 | 320=>254 | 337=>291 | 338=>292 |n=>n,fun | 3=>3 | 9=>9 | 2=>2 | 4=>4 | 171=>199 | 0=>0 | 53=>200 | 37=>22 | 5=>5 | 173=>203 | 212=>234 | 51=>235 | 20=>20 | 213=>236 | 46=>167 | 232=>274 | 233=>275 |n=>n,fun | 17=>1 | 18=>4 | 19=>5 |n=>n⟩
theorem ZEZ:Go.Proofs.LaysM.n171 Tryz.prog ZEY where
 mixed:=by kernel_rfl
 f129:=Tryz.func251.trans (Ux some (by kernel_rfl))
 f171:=Tryz.func48.trans (Ux some (by kernel_rfl))
 f243:=Tryz.func91.trans (Ux some (by kernel_rfl))
 f246:=Tryz.func148.trans (Ux some (by kernel_rfl))
 f283:=Tryz.func202.trans (Ux some (by kernel_rfl))
 f284:=Tryz.func203.trans (Ux some (by kernel_rfl))
 f285:=Tryz.func204.trans (Ux some (by kernel_rfl))
 f286:=Tryz.func205.trans (Ux some (by kernel_rfl))
 f317:=Tryz.func250.trans (Ux some (by kernel_rfl))
 f318:=Tryz.func252.trans (Ux some (by kernel_rfl))
 f319:=Tryz.func253.trans (Ux some (by kernel_rfl))
 f320:=Tryz.func254.trans (Ux some (by kernel_rfl))
 f337:=Tryz.func291.trans (Ux some (by kernel_rfl))
 f338:=Tryz.func292.trans (Ux some (by kernel_rfl))
 t0:=Tryz.underlying0
 a0:=Tryz.isAgg0
 z0:=Tryz.sizeOf0
 v0:=Tryz.zeroValue0
 t2:=Tryz.underlying2
 a2:=Tryz.isAgg2
 z2:=Tryz.sizeOf2
 v2:=Tryz.zeroValue2
 t3:=Tryz.underlying3
 a3:=Tryz.isAgg3
 z3:=Tryz.sizeOf3
 v3:=Tryz.zeroValue3
 t4:=Tryz.underlying4
 a4:=Tryz.isAgg4
 z4:=Tryz.sizeOf4
 v4:=Tryz.zeroValue4
 t5:=Tryz.underlying5
 a5:=Tryz.isAgg5
 z5:=Tryz.sizeOf5
 v5:=Tryz.zeroValue5
 t9:=Tryz.underlying9
 a9:=Tryz.isAgg9
 z9:=Tryz.sizeOf9
 v9:=Tryz.zeroValue9
 t20:=Tryz.underlying20
 a20:=Tryz.isAgg20
 z20:=Tryz.sizeOf20
 v20:=Tryz.zeroValue20
 t37:=Tryz.underlying22
 a37:=Tryz.isAgg22
 z37:=Tryz.sizeOf22
 v37:=Tryz.zeroValue22
 t46:=Tryz.underlying167
 a46:=Tryz.isAgg167
 z46:=Tryz.sizeOf167
 v46:=Tryz.zeroValue167
 t51:=Tryz.underlying235
 a51:=Tryz.isAgg235
 z51:=Tryz.sizeOf235
 v51:=Tryz.zeroValue235
 t53:=Tryz.underlying200
 a53:=Tryz.isAgg200
 z53:=Tryz.sizeOf200
 v53:=Tryz.zeroValue200
 t171:=Tryz.underlying199
 a171:=Tryz.isAgg199
 z171:=Tryz.sizeOf199
 v171:=Tryz.zeroValue199
 t173:=Tryz.underlying203
 a173:=Tryz.isAgg203
 z173:=Tryz.sizeOf203
 v173:=Tryz.zeroValue203
 t212:=Tryz.underlying234
 a212:=Tryz.isAgg234
 z212:=Tryz.sizeOf234
 v212:=Tryz.zeroValue234
 t213:=Tryz.underlying236
 a213:=Tryz.isAgg236
 z213:=Tryz.sizeOf236
 t232:=Tryz.underlying274
 a232:=Tryz.isAgg274
 z232:=Tryz.sizeOf274
 v232:=Tryz.zeroValue274
 t233:=Tryz.underlying275
 a233:=Tryz.isAgg275
 z233:=Tryz.sizeOf275
 v233:=Tryz.zeroValue275
 g17:=by kernel_rfl
 g18:=by kernel_rfl
 g19:=by kernel_rfl
 i0:=by kernel_rfl
 i2:=by kernel_rfl
 i3:=by kernel_rfl
 i4:=by kernel_rfl
 i5:=by kernel_rfl
 i9:=by kernel_rfl
 i20:=by kernel_rfl
 i37:=by kernel_rfl
 i46:=by kernel_rfl
 i51:=by kernel_rfl
 i53:=by kernel_rfl
 i171:=by kernel_rfl
 i173:=by kernel_rfl
 i212:=by kernel_rfl
 i232:=by kernel_rfl
 i233:=by kernel_rfl
 m17:=by kernel_rfl
 m18:=by kernel_rfl
 m19:=by kernel_rfl
def ZE0:Go.Shelf.Ren:=⟨fun | 137=>20 | 217=>47 | 266=>90 |n=>n,fun | 9=>9 | 5=>5 | 3=>3 |n=>n,fun n=>n⟩
theorem ZE1:Go.Proofs.Lays.n137 Tryz.prog ZE0 where
 mixed:=by kernel_rfl
 f137:=Tryz.func20.trans (Ux some (by kernel_rfl))
 f217:=Tryz.func47.trans (Ux some (by kernel_rfl))
 f266:=Tryz.func90.trans (Ux some (by kernel_rfl))
 t3:=Tryz.underlying3
 a3:=Tryz.isAgg3
 z3:=Tryz.sizeOf3
 v3:=Tryz.zeroValue3
 t5:=Tryz.underlying5
 a5:=Tryz.isAgg5
 z5:=Tryz.sizeOf5
 v5:=Tryz.zeroValue5
 t9:=Tryz.underlying9
 a9:=Tryz.isAgg9
 z9:=Tryz.sizeOf9
 v9:=Tryz.zeroValue9
def ZE2:Go.Shelf.Ren:=⟨fun | 146=>26 | 221=>54 | 268=>106 | 138=>107 | 143=>108 | 195=>167 | 197=>168 | 218=>169 | 219=>170 | 260=>221 | 217=>47 | 225=>222 | 224=>223 | 267=>224 | 266=>90 | 314=>264 |n=>n,fun | 9=>9 | 31=>46 | 3=>3 | 4=>4 | 0=>0 | 105=>176 | 21=>21 | 5=>5 | 46=>167 | 119=>240 | 139=>243 | 138=>242 | 146=>244 | 51=>235 |n=>n,fun | 1=>0 | 3=>2 | 4=>3 |n=>n⟩
theorem ZE3:Go.Proofs.Lays.n146 Tryz.prog ZE2 where
 mixed:=by kernel_rfl
 f138:=Tryz.func107.trans (Ux some (by kernel_rfl))
 f143:=Tryz.func108.trans (Ux some (by kernel_rfl))
 f146:=Tryz.func26.trans (Ux some (by kernel_rfl))
 f195:=Tryz.func167.trans (Ux some (by kernel_rfl))
 f197:=Tryz.func168.trans (Ux some (by kernel_rfl))
 f217:=Tryz.func47.trans (Ux some (by kernel_rfl))
 f218:=Tryz.func169.trans (Ux some (by kernel_rfl))
 f219:=Tryz.func170.trans (Ux some (by kernel_rfl))
 f221:=Tryz.func54.trans (Ux some (by kernel_rfl))
 f224:=Tryz.func223.trans (Ux some (by kernel_rfl))
 f225:=Tryz.func222.trans (Ux some (by kernel_rfl))
 f260:=Tryz.func221.trans (Ux some (by kernel_rfl))
 f266:=Tryz.func90.trans (Ux some (by kernel_rfl))
 f267:=Tryz.func224.trans (Ux some (by kernel_rfl))
 f268:=Tryz.func106.trans (Ux some (by kernel_rfl))
 f314:=Tryz.func264.trans (Ux some (by kernel_rfl))
 t0:=Tryz.underlying0
 a0:=Tryz.isAgg0
 z0:=Tryz.sizeOf0
 v0:=Tryz.zeroValue0
 t3:=Tryz.underlying3
 a3:=Tryz.isAgg3
 z3:=Tryz.sizeOf3
 v3:=Tryz.zeroValue3
 t4:=Tryz.underlying4
 a4:=Tryz.isAgg4
 z4:=Tryz.sizeOf4
 v4:=Tryz.zeroValue4
 t5:=Tryz.underlying5
 a5:=Tryz.isAgg5
 z5:=Tryz.sizeOf5
 v5:=Tryz.zeroValue5
 t9:=Tryz.underlying9
 a9:=Tryz.isAgg9
 z9:=Tryz.sizeOf9
 v9:=Tryz.zeroValue9
 t21:=Tryz.underlying21
 a21:=Tryz.isAgg21
 z21:=Tryz.sizeOf21
 v21:=Tryz.zeroValue21
 t31:=Tryz.underlying46
 a31:=Tryz.isAgg46
 z31:=Tryz.sizeOf46
 v31:=Tryz.zeroValue46
 t46:=Tryz.underlying167
 a46:=Tryz.isAgg167
 z46:=Tryz.sizeOf167
 v46:=Tryz.zeroValue167
 t51:=Tryz.underlying235
 a51:=Tryz.isAgg235
 z51:=Tryz.sizeOf235
 v51:=Tryz.zeroValue235
 t105:=Tryz.underlying176
 a105:=Tryz.isAgg176
 z105:=Tryz.sizeOf176
 v105:=Tryz.zeroValue176
 t119:=Tryz.underlying240
 a119:=Tryz.isAgg240
 z119:=Tryz.sizeOf240
 t138:=Tryz.underlying242
 a138:=Tryz.isAgg242
 z138:=Tryz.sizeOf242
 v138:=Tryz.zeroValue242
 t139:=Tryz.underlying243
 a139:=Tryz.isAgg243
 z139:=Tryz.sizeOf243
 v139:=Tryz.zeroValue243
 t146:=Tryz.underlying244
 a146:=Tryz.isAgg244
 z146:=Tryz.sizeOf244
 v146:=Tryz.zeroValue244
 g1:=by kernel_rfl
 g3:=by kernel_rfl
 g4:=by kernel_rfl
def Zt6:Entry:=⟨aV (rCo (rX .unq 1 (Zb q8)) (Zb (rFn 192 Za8))),qV (rSo (rX .unq 1 (Zb q8))),fun (x:((List (List Int))×Unit))=>ZlV x.1⟩
theorem ZE4:OkU gG 191 Zt6:=fun x r hS _ _=>by
 obtain ⟨h1,rfl⟩:=ZEU hS;exact ZEV x.1 h1
def Zt7:Entry:=⟨aV (rCo rS (Zb rY)),qV rI,fun (x:ByteArray×Int)=>Zeq x.1 x.2⟩
theorem ZE5:Ok gG 20 Zt7:=ZAj ZE1 rfl Tryz.func20 (by kernel_rfl) (by kernel_rfl)
def Zt8:Entry:=⟨aV q10,qV rS,fun (x:Int)=>ZcG x⟩
theorem ZE6:Ok gG 48 Zt8:=ZAi ZEZ rfl Tryz.func48 (by kernel_rfl) (by kernel_rfl) GOk.tab
def Zn8:Entry:=⟨aV (rCo rS (Zb rS)),qV q28,fun (x:ByteArray×ByteArray)=>Zao x.1 x.2⟩
theorem Zt9:Ok gG 26 Zn8:=ZAs ZE3 (by kernel_rfl) rfl Tryz.func26 (by kernel_rfl) (by kernel_rfl) GOk.max
def Zua:Entry:=⟨aV (rCo (rX .unq 1 iR) (rCo rI (Zb q8))),qV q8,fun (x:(List Int)×Int×(List Int))=>ZlU x.1 x.2.1 x.2.2⟩
theorem ZE7:Ok gG 227 Zua:=Zrc (R:=iR) Zn7 (t:=32) (e:=3) (k:=1) rfl rfl ZEH (fun x a ha=>by simp [iR,RT.map,rCo,Zb,rI,rB] at ha;first |exact ⟨_,ha⟩ | (rcases ha with rfl |rfl <;> exact ⟨_,rfl⟩) | (rcases ha with rfl |rfl |rfl <;> exact ⟨_,rfl⟩)) Tryz.func227 (by kernel_rfl) (by kernel_rfl)
def Zub:Entry:=⟨aV (rCo (rX .unq 2 Zd) (rCo rI (Zb q16))),qV q16,fun (x:(List Want)×Int×(List Want))=>Zer x.1 x.2.1 x.2.2⟩
theorem ZE8:Ok gG 182 Zub:=Zrc (R:=Zd) Zn7 (t:=35) (e:=79) (k:=2) rfl rfl ZEL (fun x a ha=>by simp [Zd,RT.map,rCo,Zb,rI,rB] at ha;first |exact ⟨_,ha⟩ | (rcases ha with rfl |rfl <;> exact ⟨_,rfl⟩) | (rcases ha with rfl |rfl |rfl <;> exact ⟨_,rfl⟩)) Tryz.func182 (by kernel_rfl) (by kernel_rfl)
def Zuc:Entry:=⟨aV (rCo q28 (Zb rS)),qV rS,fun (x:(List ByteArray)×ByteArray)=>Zbt x.1 x.2⟩
theorem ZE9:Ok gG 188 Zuc:=ZAe ZEW ZEX rfl Tryz.func188 (by kernel_rfl) (by kernel_rfl)
def Zud:Entry:=⟨aV (Zb (rX .shr 1 yR)),qV rB,fun (x:List Int)=>Zg0 x⟩
theorem ZFa:Ok gG 4 Zud:=mkA Tryz.func4 [] [] {} trivial
def ZjI:Entry:=⟨aV (Zb (rX .shr 1 yR)),qVG (rGp 0) (Yi (Zm .shr)),fun (x:List Int)=>ZcH x⟩
theorem Zn9:Ok gG 14 ZjI:=mkA Tryz.func14 [] [(5,yR)] {hb:= [((0,0),16)],lv:= [(3,⟨[0,3,4],[],[],pV (rCo (rX .shr 1 yR) q3),[]⟩)]} trivial
def Zue:Entry:=⟨aVG (Zb (rGp 0)) (Yi (Zm .shr)),qVG rI (Yi (Zm .shr)),fun (x:Unit×L1Cur)=>Zbu x.2⟩
theorem ZFb:Ok gG 88 Zue:=mkA Tryz.func88 [] [(5,yR)] {} trivial
def KM:Entry:=⟨aVG (rCo (rGp 0) q10) (Yi (Zm .shr)),qVG rI (Yi (Zm .shr)),fun (x:(Unit×Int)×L1Cur)=>Y3 x.1.2 x.2⟩
theorem Za2:Ok gG 42 KM:=mk Tryz.func42 (by kernel_rfl) [((88,0),Zue)] [] (Xo [88]) [] {} ⟨ZFb,trivial⟩ trivial (fun x=>by kernel_rfl)
def ZjJ:Entry:=⟨aVG (rCo (rGp 0) q10) (Yi (Zm .shr)),qVG (rAg Zg) (Yi (Zm .shr)),fun (x:(Unit×Int)×L1Cur)=>ZcI x.1.2 x.2⟩
theorem Zoa:Ok gG 18 ZjJ:=mk Tryz.func18 (by kernel_rfl) [((42,0),KM)] [] (Xo [42]) [] {} ⟨Za2,trivial⟩ trivial (fun x=>by kernel_rfl)
def Zob:Entry:=⟨aVG (rCo (rGp 0) q15) (Yi (Zm .shr)),qVG rI (Yi (Zm .shr)),fun (x:((Unit×(List Int))×L1Cur))=>ZcJ x.1.2 x.2⟩
theorem Zuf:Ok gG 45 Zob:=mk Tryz.func45 (by kernel_rfl) [((42,0),KM)] [] (Xo [42]) [(3,iR)] {} ⟨Za2,trivial⟩ trivial (fun x=>by kernel_rfl)
def Zug:Entry:=⟨aVG (Zb (rGp 0)) (Yi (Zm .shr)),qVG rI (Yi (Zm .shr)),fun (x:Unit×L1Cur)=>Zes x.2⟩
theorem ZFc:Ok gG 46 Zug:=mk Tryz.func46 (by kernel_rfl) [((45,0),Zob)] [] (Xo [45]) [] {} ⟨Zuf,trivial⟩ trivial (fun x=>by kernel_rfl)
def Zuh:Entry:=⟨aVG (Zb (rGp 0)) (Yi (Zm .shr)),qVG (rAg Zg) (Yi (Zm .shr)),fun (x:Unit×L1Cur)=>Zg1 x.2⟩
theorem ZFd:Ok gG 17 Zuh:=mk Tryz.func17 (by kernel_rfl) [((42,0),KM),((18,0),ZjJ),((45,0),Zob),((46,0),Zug)] [] (Xo [18,42,45,46]) [] {} ⟨Za2,Zoa,Zuf,ZFc,trivial⟩ trivial (fun x=>by kernel_rfl)
def Qt:Entry:=⟨aV q25,qV rB,fun (x:Int×Int×Int)=>YD x.1 x.2.1 x.2.2⟩
theorem QP:Ok gG 89 Qt:=mkA Tryz.func89 [] [] {} trivial
def Zfy:Entry:=⟨aV q24,qV rB,fun (x:Path)=>Zap x⟩
theorem ZjK:Ok gG 43 Zfy:=mkA Tryz.func43 [((89,0),Qt)] [] {} ⟨QP,trivial⟩
def Zui:Entry:=⟨aV q10,qV rS,fun (x:Int)=>ZcK x⟩
theorem ZFe:Ok gG 44 Zui:=mkA Tryz.func44 [] [] {lv:= [(5,⟨[0,3,4],[],[],pV (rCo rI (rCo rS q10)),[]⟩)]} trivial
def Zuj:Entry:=⟨aV q24,qV rS,fun (x:Path)=>Zbv x⟩
theorem ZFf:Ok gG 16 Zuj:=mkA Tryz.func16 [((43,0),Zfy),((44,0),Zui)] [(9,sR)] {} ⟨ZjK,ZFe,trivial⟩
def Zoc:Entry:=⟨aVG (rCo (rGp 0) (Zb q28)) (Yi (Zm .shr)),qVG rS (Yi (Zm .shr)),fun (x:((Unit×(List ByteArray))×L1Cur))=>Zet x.1.2 x.2⟩
theorem Zuk:Ok gG 15 Zoc:=mk Tryz.func15 (by kernel_rfl) [((42,0),KM)] [] (Xo [42]) [(9,sR)] {} ⟨Za2,trivial⟩ trivial (fun x=>by kernel_rfl)
def Zul:Entry:=⟨aV (Zb (rX .shr 1 yR)),qV rS,fun (x:List Int)=>Zg2 x⟩
theorem ZFg:Ok gG 5 Zul:=mk Tryz.func5 (by kernel_rfl) [((14,0),ZjI),((17,0),Zuh),((16,0),Zuj),((18,0),ZjJ),((15,0),Zoc)] [] (Xo [14,15,17,18]) [] {} ⟨Zn9,ZFd,ZFf,Zoa,Zuk,trivial⟩ trivial (fun x=>by kernel_rfl)
def Zod:Entry:=⟨aV (Zb rS),qV (rTu (rCo rI q18)),fun (x:ByteArray)=>Zeu x⟩
theorem Zum:Ok gG 19 Zod:=mkA Tryz.func19 [] [] {lv:= [(5,⟨[0,4,25,26],[],[],pV (rCo rS q25),[]⟩)]} trivial
def XU:Entry:=⟨aV q25,qV rB,fun (x:Int×Int×Int)=>Yr x.1 x.2.1 x.2.2⟩
theorem X6:Ok gG 22 XU:=mkA Tryz.func22 [] [] {} trivial
def ZdG:Entry:=⟨aV q24,qV rB,fun (x:Path)=>Jq x⟩
theorem Zfz:Ok gG 8 ZdG:=mkA Tryz.func8 [((22,0),XU)] [] {} ⟨X6,trivial⟩
def Za3:Entry:=⟨aV q10,qV rS,fun (x:Int)=>XL x⟩
theorem Zb7:Ok gG 21 Za3:=mkA Tryz.func21 [((48,0),Zt8)] [] {} ⟨ZE6,trivial⟩
def ZjL:Entry:=⟨aV q24,qV rS,fun (x:Path)=>Zaq x⟩
theorem Zoe:Ok gG 7 ZjL:=mkA Tryz.func7 [((8,0),ZdG),((21,0),Za3)] [] {} ⟨Zfz,Zb7,trivial⟩
def Zof:Entry:=⟨aV (Zb rS),qV (rTu (rCo (rAg Zg) q18)),fun (x:ByteArray)=>Zev x⟩
theorem Zun:Ok gG 6 Zof:=mkA Tryz.func6 [((19,0),Zod),((20,0),Zt7),((7,0),ZjL)] [] {} ⟨Zum,ZE5,Zoe,trivial⟩
def Zuo:Entry:=⟨aVG (Zb (rGp 0)) (Yi (Zm .shr)),qVG (rX .own 4 Zg) (Yi (Zm .shr)),fun (x:Unit×L1Cur)=>Zg3 x.2⟩
theorem ZFh:Ok gG 93 Zuo:=mk Tryz.func93 (by kernel_rfl) [((42,0),KM),((18,0),ZjJ)] [] (Xo [18,42]) [] {tk:= [(1,1),(5,0),(5,5),(5,6),(6,0),(6,1)],lv:= [(3,⟨[0,3,4],[],[],pVG (rCo (rGp 0) (rCo (rX .own 4 Zg) q10)) (Yi (Zm .shr)),[]⟩)]} ⟨Za2,Zoa,trivial⟩ trivial (fun x=>by kernel_rfl)
def Zb8:Entry:=⟨aV (Zb q1),qV rB,fun (x:List Path)=>Jr x⟩
theorem ZdH:Ok gG 206 Zb8:=mkA Tryz.func206 [((43,0),Zfy)] [(26,Zg)] {lv:= [(2,⟨[0,3],[],[],pV (rCo q1 q10),[]⟩)]} ⟨ZjK,trivial⟩
def Za4:Entry:=⟨aV (rCo q5 q10),qV rB,fun (x:(List Int)×Int)=>QZ x.1 x.2⟩
theorem Zb9:Ok gG 207 Za4:=mkA Tryz.func207 [] [(3,iR)] {lv:= [(2,⟨[0,1,5],[],[],pV q27,[]⟩)]} trivial
def V4:Entry:=⟨aV (rCo q1 q10),qV rI,fun (x:(List Path)×Int)=>XM x.1 x.2⟩
theorem JX:Ok gG 99 V4:=mkA Tryz.func99 [] [(26,Zg)] {lv:= [(2,⟨[0,1,5],[],[],pV q21,[]⟩)]} trivial
def Zup:Entry:=⟨aV q10,qV rI,fun (x:Int)=>ZcL x⟩
theorem ZFi:Ok gG 295 Zup:=mkA Tryz.func295 [((89,0),Qt)] [] {} ⟨QP,trivial⟩
def Zuq:Entry:=⟨aV q10,qV rI,fun (x:Int)=>ZcM x⟩
theorem ZFj:Ok gG 296 Zuq:=mkA Tryz.func296 [((89,0),Qt)] [] {} ⟨QP,trivial⟩
def Zur:Entry:=⟨aV (rCo rI q25),qV rB,fun (x:Int×Int×Int×Int)=>Zew x.1 x.2.1 x.2.2.1 x.2.2.2⟩
theorem ZFk:Ok gG 294 Zur:=mkA Tryz.func294 [((89,0),Qt)] [(3,iR)] {tk:= [(1,5)],lv:= [(3,⟨[0,1,2,3,9,10],[],[],pV (rCo rI (rCo rI (rCo rI (rCo rI (rCo q8 q10))))),[]⟩),(6,⟨[0,1,2,3,9,10,11],[],[],pV (rCo rI (rCo rI (rCo rI (rCo rI (rCo q8 q3))))),[]⟩),(14,⟨[1,2,3,12,13],[],[],pV (rCo rI (rCo rI q25)),[]⟩)]} ⟨QP,trivial⟩
def ZjM:Entry:=⟨aV (rCo (rAg Zg) q24),qV rB,fun (x:Path×Path)=>Zbw x.1 x.2⟩
theorem Zog:Ok gG 256 ZjM:=mkA Tryz.func256 [((43,0),Zfy),((295,0),Zup),((296,0),Zuq),((294,0),Zur)] [] {} ⟨ZjK,ZFi,ZFj,ZFk,trivial⟩
def ZfA:Entry:=⟨aV (rCo q1 q15),qV rB,fun (x:(List Path)×(List Int))=>Js x.1 x.2⟩
theorem ZjN:Ok gG 212 ZfA:=mkA Tryz.func212 [((99,0),V4),((256,0),ZjM),((206,0),Zb8)] [(3,iR),(26,Zg)] {lv:= [(2,⟨[0,1,5],[],[],pV (rCo q1 (rCo q5 q10)),[]⟩),(8,⟨[0,1,5,6,7],[],[],pV (rCo q1 (rCo q5 q25)),[]⟩)]} ⟨JX,Zog,ZdH,trivial⟩
def Zoh:Entry:=⟨aV (rCo q5 q10),qV q8,fun (x:(List Int)×Int)=>Zex x.1 x.2⟩
theorem Zus:Ok gG 209 Zoh:=mkA Tryz.func209 [] [(3,iR)] {tk:= [(5,3),(6,7),(6,12)],lv:= [(2,⟨[0,1,5],[],[],pV q27,[]⟩)]} trivial
def ZjO:Entry:=⟨aV (rCo q1 q15),qV q8,fun (x:(List Path)×(List Int))=>ZcN x.1 x.2⟩
theorem Zoi:Ok gG 208 ZjO:=mkA Tryz.func208 [((212,0),ZfA),((209,0),Zoh)] [(26,Zg)] {tk:= [(1,3),(5,7),(7,0),(7,1),(8,0),(8,1)],lv:= [(3,⟨[0,1,5,6],[],[],pV (rCo q1 (rCo q5 (rCo q8 q10))),[]⟩)]} ⟨ZjN,Zus,trivial⟩
def Zut:Entry:=⟨aV (Zb q1),qV (rX .own 1 q15),fun (x:List Path)=>Zg4 x⟩
theorem ZFl:Ok gG 149 Zut:=mkA Tryz.func149 [((206,0),Zb8),((207,0),Za4),((208,0),ZjO),((209,0),Zoh)] [(3,iR),(26,Zg)] {tk:= [(1,1),(2,1),(7,8),(8,0),(8,3),(8,4),(12,0),(12,6),(13,0),(13,1)],lv:= [(4,⟨[0,3,4,5],[],[],pV (rCo q1 (rCo (rX .own 1 q15) (rCo q8 q10))),[]⟩),(10,⟨[0,3,4,5,6,7],[],[],pV (rCo q1 (rCo (rX .own 1 q15) (rCo q8 (rCo rI (rCo q8 q10))))),[]⟩)]} ⟨ZdH,Zb9,Zoi,Zus,trivial⟩
def Zca:Entry:=⟨aV (Zb q6),qV q13,fun (x:Control)=>Vu x⟩
theorem ZdI:Ok gG 152 Zca:=mkA Tryz.func152 [] [] {tk:= [(1,12),(1,13)]} trivial
def ZfB:Entry:=⟨aV (Zb q7),qV q19,fun (x:List Note)=>Zar x⟩
theorem ZjP:Ok gG 153 ZfB:=mkA Tryz.func153 [] [(85,(Zc .shr))] {tk:= [(1,1),(5,0),(5,18),(5,19),(5,20),(5,21),(6,0),(6,1)],lv:= [(3,⟨[0,3,4],[],[],pV (rCo q7 (rCo q19 q10)),[]⟩)]} trivial
def Za5:Entry:=⟨aV (Zb q2),qV q4,fun (x:Town)=>XN x⟩
theorem Zcb:Ok gG 95 Za5:=mkA Tryz.func95 [((152,0),Zca),((153,0),ZfB)] [] {tk:= [(1,26),(1,27)]} ⟨ZdI,ZjP,trivial⟩
def Zuu:Entry:=⟨aV (rCo q5 q15),qV q8,fun (x:(List Int)×(List Int))=>Zey x.1 x.2⟩
theorem ZFm:Ok gG 257 Zuu:=mkA Tryz.func257 [((207,0),Za4)] [(3,iR)] {tk:= [(1,1),(6,0),(6,6),(6,7),(7,0),(7,1)],lv:= [(3,⟨[0,1,5,6],[],[],pV (rCo q5 (rCo q5 (rCo q8 q10))),[]⟩)]} ⟨Zb9,trivial⟩
def Zuv:Entry:=⟨aV q24,qV rI,fun (x:Path)=>Zg5 x⟩
theorem ZFn:Ok gG 259 Zuv:=mkA Tryz.func259 [((43,0),Zfy)] [(3,iR)] {} ⟨ZjK,trivial⟩
def Zuw:Entry:=⟨aV q3,qV rI,fun (x:Int×Int)=>Zg6 x.1 x.2⟩
theorem ZFo:Ok gG 258 Zuw:=mkA Tryz.func258 [] [] {} trivial
def ZjQ:Entry:=⟨aV (rCo q1 (rCo q5 q15)),qV rI,fun (x:(List Path)×(List Int)×(List Int))=>ZcO x.1 x.2.1 x.2.2⟩
theorem Zoj:Ok gG 213 ZjQ:=mkA Tryz.func213 [((257,0),Zuu),((212,0),ZfA),((99,0),V4),((256,0),ZjM),((259,0),Zuv),((258,0),Zuw)] [(3,iR),(26,Zg)] {tk:= [(2,3),(3,3)],lv:= [(5,⟨[0,1,2,7,8,9,10],[],[],pV (rCo q1 (rCo q5 (rCo q5 (rCo rI (rCo q8 (rCo q8 q10)))))),[]⟩),(8,⟨[0,1,2,7,8,9,10,11],[],[],pV (rCo q1 (rCo q5 (rCo q5 (rCo rI (rCo q8 (rCo q8 q3)))))),[]⟩)]} ⟨ZFm,ZjN,JX,Zog,ZFn,ZFo,trivial⟩
def JY:Entry:=⟨aV q20,qV rB,fun (x:(List Path)×Control)=>Q0 x.1 x.2⟩
theorem KN:Ok gG 156 JY:=mkA Tryz.func156 [((212,0),ZfA),((89,0),Qt),((213,0),ZjQ)] [] {} ⟨ZjN,QP,Zoj,trivial⟩
def ZfC:Entry:=⟨aV q20,qV q8,fun (x:(List Path)×Control)=>Zas x.1 x.2⟩
theorem ZjR:Ok gG 151 ZfC:=mkA Tryz.func151 [((156,0),JY),((207,0),Za4)] [(26,Zg)] {tk:= [(1,1),(10,0),(10,3),(10,4),(11,0),(11,1)],lv:= [(3,⟨[0,5,6],[(3,3,false)],[(3,4,false,false)],pVO (rCo q1 (rCo q8 q10)) (YR (Xe .shr .shr)),[]⟩)]} ⟨KN,Zb9,trivial⟩
def Zux:Entry:=⟨aV (Zb q7),qV rI,fun (x:List Note)=>Zg7 x⟩
theorem ZFp:Ok gG 211 Zux:=mkA Tryz.func211 [] [(85,(Zc .shr))] {} trivial
def Zuy:Entry:=⟨aV q3,qV rI,fun (x:Int×Int)=>Zg8 x.1 x.2⟩
theorem ZFq:Ok gG 293 Zuy:=mkA Tryz.func293 [((89,0),Qt)] [] {} ⟨QP,trivial⟩
def Zuz:Entry:=⟨aV q15,qV rI,fun (x:List Int)=>Zg9 x⟩
theorem ZFr:Ok gG 255 Zuz:=mkA Tryz.func255 [((293,0),Zuy)] [(3,iR)] {lv:= [(3,⟨[0,3,4],[],[],pV q27,[]⟩)]} ⟨ZFq,trivial⟩
def Zok:Entry:=⟨aV (rCo rI (rCo rI q15)),qV rI,fun (x:Int×Int×(List Int))=>Zez x.1 x.2.1 x.2.2⟩
theorem ZuA:Ok gG 210 Zok:=mkA Tryz.func210 [((255,0),Zuz)] [] {} ⟨ZFr,trivial⟩
def ZfD:Entry:=⟨aV (Zb q7),qV rB,fun (x:List Note)=>Zbx x⟩
theorem ZjS:Ok gG 158 ZfD:=mkA Tryz.func158 [((210,0),Zok),((89,0),Qt)] [(3,iR),(85,(Zc .shr))] {lv:= [(3,⟨[0,3,4],[],[],pV (rCo q7 q3),[]⟩),(9,⟨[0,3,4,5],[],[],pV (rCo q7 q25),[]⟩)]} ⟨ZuA,QP,trivial⟩
def ZjT:Entry:=⟨aV (rCo q7 (rCo rI q15)),qV (rTu (rCo q19 q18)),fun (x:(List Note)×Int×(List Int))=>Jt x.1 x.2.1 x.2.2⟩
theorem Zol:Ok gG 150 ZjT:=mkA Tryz.func150 [((153,0),ZfB),((211,0),Zux),((210,0),Zok),((158,0),ZfD)] [] {tk:= [(1,11),(1,12),(1,13),(1,14),(3,2),(4,0),(4,1)]} ⟨ZjP,ZFp,ZuA,ZjS,trivial⟩
def ZdJ:Entry:=⟨aV (rCo q1 (Zb q9)),qV rB,fun (x:(List Path)×(List Want))=>Ju x.1 x.2⟩
theorem ZfE:Ok gG 154 ZdJ:=mkA Tryz.func154 [((99,0),V4),((89,0),Qt),((206,0),Zb8)] [(79,Zd)] {lv:= [(2,⟨[0,1,5],[],[],pV (rCo q1 (rCo q9 q10)),[]⟩)]} ⟨JX,QP,ZdH,trivial⟩
def ZfF:Entry:=⟨aV (rCo q1 q23),qV rB,fun (x:(List Path)×Prio)=>Zat x.1 x.2⟩
theorem ZjU:Ok gG 155 ZfF:=mkA Tryz.func155 [((206,0),Zb8),((99,0),V4),((89,0),Qt)] [(26,Zg)] {} ⟨ZdH,JX,QP,trivial⟩
def Zom:Entry:=⟨aV (rCo q1 (Zb q11)),qV rB,fun (x:(List Path)×(List Lamp))=>ZeA x.1 x.2⟩
theorem ZuB:Ok gG 157 Zom:=mkA Tryz.func157 [((99,0),V4),((89,0),Qt),((206,0),Zb8)] [(82,Zq)] {lv:= [(2,⟨[0,1,5],[],[],pV (rCo q1 (rCo q11 q10)),[]⟩),(7,⟨[0,1,5,6],[],[],pV (rCo q1 (rCo q11 q3)),[]⟩)]} ⟨JX,QP,ZdH,trivial⟩
def ZuC:Entry:=⟨aV (rCo q1 q15),qV rB,fun (x:(List Path)×(List Int))=>Zha x.1 x.2⟩
theorem ZFs:Ok gG 214 ZuC:=mkA Tryz.func214 [((206,0),Zb8),((89,0),Qt),((256,0),ZjM)] [(3,iR),(26,Zg)] {lv:= [(4,⟨[0,1,5],[],[],pV (rCo q1 (rCo q5 q10)),[]⟩),(9,⟨[0,1,5,6],[],[],pV (rCo q1 q27),[]⟩)]} ⟨ZdH,QP,Zog,trivial⟩
def ZuD:Entry:=⟨aV (rCo q1 (Zb q7)),qV rI,fun (x:(List Path)×(List Note))=>Zhb x.1 x.2⟩
theorem ZFt:Ok gG 159 ZuD:=mkA Tryz.func159 [((158,0),ZfD),((214,0),ZuC)] [(85,(Zc .shr))] {lv:= [(2,⟨[0,1,5],[],[],pV (rCo q1 (rCo q7 q10)),[]⟩)]} ⟨ZjS,ZFs,trivial⟩
def ZfG:Entry:=⟨aV (Zb q2),qV rB,fun (x:Town)=>Zau x⟩
theorem ZjV:Ok gG 100 ZfG:=mkA Tryz.func100 [((156,0),JY),((154,0),ZdJ),((155,0),ZfF),((157,0),Zom),((158,0),ZfD),((159,0),ZuD),((89,0),Qt)] [(85,(Zc .shr))] {} ⟨KN,ZfE,ZjU,ZuB,ZjS,ZFt,QP,trivial⟩
def ZuE:Entry:=⟨aV (Zb q1),qV q12,fun (x:List Path)=>Zhc x⟩
theorem ZFu:Ok gG 92 ZuE:=mkA Tryz.func92 [((149,0),Zut),((95,0),Za5),((151,0),ZfC),((150,0),ZjT),((100,0),ZfG)] [(32,q15)] {tk:= [(1,2),(3,1),(4,1),(4,5),(4,8),(5,5),(5,6),(5,9),(7,1),(8,1)],mo:= [(8,0)]} ⟨ZFl,Zcb,ZjR,Zol,ZjV,trivial⟩
def ZjW:Entry:=⟨aVG (rCo (rGp 0) q10) (Yi (Zm .shr)),qVG rB (Yi (Zm .shr)),fun (x:(Unit×Int)×L1Cur)=>Zav x.1.2 x.2⟩
theorem Zon:Ok gG 24 ZjW:=mk Tryz.func24 (by kernel_rfl) [((42,0),KM)] [] (Xo [42]) [] {} ⟨Za2,trivial⟩ trivial (fun x=>by kernel_rfl)
def ZuF:Entry:=⟨aVG (rCo (rGp 0) (rCo q1 q10)) (Yi (Zm .shr)),qVG (rX .own 3 Zq) (Yi (Zm .shr)),fun (x:((Unit×(List Path)×Int)×L1Cur))=>Zhd x.1.2.1 x.1.2.2 x.2⟩
theorem ZFv:Ok gG 94 ZuF:=mk Tryz.func94 (by kernel_rfl) [((24,0),ZjW)] [] (Xo [24]) [(26,Zg)] {tk:= [(1,1),(9,0),(9,12),(9,13),(10,0),(10,1)],lv:= [(3,⟨[0,1,2,7,8],[],[],pVG (rCo (rGp 0) (rCo q1 (rCo rI (rCo (rX .own 3 Zq) q10)))) (Yi (Zm .shr)),[]⟩),(6,⟨[0,1,2,7,8,9],[],[],pVG (rCo (rGp 0) (rCo q1 (rCo rI (rCo (rX .own 3 Zq) q3)))) (Yi (Zm .shr)),[]⟩)]} ⟨Zon,trivial⟩ trivial (fun x=>by kernel_rfl)
def ZuG:Entry:=⟨aVG (Zb (rGp 0)) (Yi (Zm .shr)),qVG q4 (Yi (Zm .shr)),fun (x:Unit×L1Cur)=>Zhe x.2⟩
theorem ZFw:Ok gG 49 ZuG:=mk Tryz.func49 (by kernel_rfl) [((93,0),Zuo),((92,0),ZuE),((94,0),ZuF)] [] (Xo [93,94]) [] {tk:= [(1,3),(1,4),(1,7),(2,5),(3,1)],mo:= [(3,0)]} ⟨ZFh,ZFu,ZFv,trivial⟩ trivial (fun x=>by kernel_rfl)
def ZuH:Entry:=⟨aV (rCo q1 (rCo q9 q10)),qV (rTu (rCo q16 q18)),fun (x:(List Path)×(List Want)×Int)=>Zhf x.1 x.2.1 x.2.2⟩
theorem ZFx:Ok gG 96 ZuH:=mkA Tryz.func96 [((154,0),ZdJ)] [(79,Zd)] {tk:= [(4,8),(4,13),(6,3),(7,0),(7,1)],lv:= [(2,⟨[0,1,2,8],[],[],pV (rCo q1 (rCo q9 q3)),[]⟩)]} ⟨ZfE,trivial⟩
def ZfH:Entry:=⟨aV (rCo q2 (rCo q4 q18)),qV q12,fun (x:Town×Town×Bool)=>Jv x.1 x.2.1 x.2.2⟩
theorem ZjX:Ok gG 97 ZfH:=mkA Tryz.func97 [((100,0),ZfG),((95,0),Za5)] [] {tk:= [(0,1),(2,2),(3,1)],mo:= [(3,0)]} ⟨ZjV,Zcb,trivial⟩
def ZuI:Entry:=⟨aV (rCo q2 q10),qV q12,fun (x:Town×Int)=>ZeB x.1 x.2⟩
theorem ZFy:Ok gG 50 ZuI:=mkA Tryz.func50 [((95,0),Za5),((96,0),ZuH),((97,0),ZfH)] [] {tk:= [(1,3),(2,6),(2,7),(2,9),(3,0),(3,2),(4,3),(4,4),(4,6)],mo:= [(4,1)]} ⟨Zcb,ZFx,ZjX,trivial⟩
def ZuJ:Entry:=⟨aV (rCo q1 (rCo (rAg Yb) q10)),qV (rTu (rCo (rAg Yb) q18)),fun (x:(List Path)×Prio×Int)=>Zhg x.1 x.2.1 x.2.2⟩
theorem ZFz:Ok gG 98 ZuJ:=mkA Tryz.func98 [((155,0),ZfF)] [] {} ⟨ZjU,trivial⟩
def ZuK:Entry:=⟨aV (rCo q2 q10),qV q12,fun (x:Town×Int)=>Zhh x.1 x.2⟩
theorem ZFA:Ok gG 51 ZuK:=mkA Tryz.func51 [((95,0),Za5),((98,0),ZuJ),((97,0),ZfH)] [] {tk:= [(1,3),(4,3),(4,4),(4,6)],mo:= [(4,1)]} ⟨Zcb,ZFz,ZjX,trivial⟩
def ZuL:Entry:=⟨aV (rCo q1 (rCo q11 q18)),qV rI,fun (x:(List Path)×(List Lamp)×Bool)=>Zhi x.1 x.2.1 x.2.2⟩
theorem ZFB:Ok gG 160 ZuL:=mkA Tryz.func160 [((157,0),Zom)] [(82,Zq)] {lv:= [(4,⟨[0,1,7],[],[],pV (rCo q1 (rCo q11 q10)),[]⟩)]} ⟨ZuB,trivial⟩
def ZjY:Entry:=⟨aV (Zb q2),qV rI,fun (x:Town)=>Zaw x⟩
theorem Zoo:Ok gG 101 ZjY:=mkA Tryz.func101 [((160,0),ZuL)] [] {} ⟨ZFB,trivial⟩
def Zop:Entry:=⟨aV (rCo q1 q15),qV rI,fun (x:(List Path)×(List Int))=>ZeC x.1 x.2⟩
theorem ZuM:Ok gG 260 Zop:=mkA Tryz.func260 [((99,0),V4)] [(3,iR),(26,Zg)] {lv:= [(2,⟨[0,1,5],[],[],pV (rCo q1 (rCo q5 q10)),[]⟩)]} ⟨JX,trivial⟩
def ZuN:Entry:=⟨aV q20,qV rB,fun (x:(List Path)×Control)=>Zhj x.1 x.2⟩
theorem ZFC:Ok gG 215 ZuN:=mkA Tryz.func215 [((260,0),Zop),((156,0),JY)] [] {} ⟨ZuM,KN,trivial⟩
def ZuO:Entry:=⟨aV (rCo q1 (rCo q6 q10)),qV (rTu (rCo q13 q18)),fun (x:(List Path)×Control×Int)=>Zhk x.1 x.2.1 x.2.2⟩
theorem ZFD:Ok gG 161 ZuO:=mkA Tryz.func161 [((152,0),Zca),((99,0),V4),((215,0),ZuN),((207,0),Za4),((213,0),ZjQ)] [(26,Zg)] {tk:= [(1,3),(4,1),(7,2),(7,3),(8,3),(10,1)],mo:= [(4,0),(10,0)]} ⟨ZdI,JX,ZFC,Zb9,Zoj,trivial⟩
def ZfI:Entry:=⟨aV q3,qV rI,fun (x:Int×Int)=>VR x.1 x.2⟩
theorem ZjZ:Ok gG 163 ZfI:=mkA Tryz.func163 [] [] {} trivial
def Zj0:Entry:=⟨aV q20,qV q13,fun (x:(List Path)×Control)=>ZcP x.1 x.2⟩
theorem Zoq:Ok gG 162 Zj0:=mkA Tryz.func162 [((152,0),Zca),((156,0),JY),((163,0),ZfI)] [] {tk:= [(1,3),(3,1),(6,1),(9,2),(9,3),(10,1)],mo:= [(3,0),(6,0),(9,1),(10,0)]} ⟨ZdI,KN,ZjZ,trivial⟩
def ZuP:Entry:=⟨aV (rCo q1 (rCo q6 q10)),qV q13,fun (x:(List Path)×Control×Int)=>Zhl x.1 x.2.1 x.2.2⟩
theorem ZFE:Ok gG 102 ZuP:=mkA Tryz.func102 [((161,0),ZuO),((162,0),Zj0)] [] {tk:= [(1,4),(1,5),(1,8),(3,1),(4,3)],mo:= [(3,0)]} ⟨ZFD,Zoq,trivial⟩
def Zor:Entry:=⟨aV q17,qV q16,fun (x:(List Path)×Control×(List Want))=>ZcQ x.1 x.2.1 x.2.2⟩
theorem ZuQ:Ok gG 103 Zor:=mkA Tryz.func103 [((151,0),ZfC),((99,0),V4),((163,0),ZfI)] [(3,iR),(79,Zd)] {tk:= [(1,1),(2,3),(7,0),(7,15),(7,16),(8,0),(8,1)],lv:= [(4,⟨[0,2,7,8,9],[],[],pV (rCo q1 (rCo q9 (rCo q16 (rCo q8 q10)))),[]⟩)]} ⟨ZjR,JX,ZjZ,trivial⟩
def ZuR:Entry:=⟨aV (rCo q2 q10),qV q8,fun (x:Town×Int)=>Zhm x.1 x.2⟩
theorem ZFF:Ok gG 216 ZuR:=mkA Tryz.func216 [] [] {tk:= [(1,1),(5,0),(5,3),(5,4),(6,0),(6,1)],lv:= [(3,⟨[1,5,6],[(2,2,false)],[(2,13,false,false)],pVO (rCo rI (rCo q8 q10)) (YR (YO .shr .shr .shr .shr .shr .shr .shr)),[]⟩)]} trivial
def ZuS:Entry:=⟨aV (Zb q2),qV q8,fun (x:Town)=>Zhn x⟩
theorem ZFG:Ok gG 164 ZuS:=mkA Tryz.func164 [((101,0),ZjY),((151,0),ZfC),((216,0),ZuR)] [] {tk:= [(2,5),(3,2)]} ⟨Zoo,ZjR,ZFF,trivial⟩
def Zos:Entry:=⟨aV (rCo q5 q15),qV rB,fun (x:(List Int)×(List Int))=>ZeD x.1 x.2⟩
theorem ZuT:Ok gG 217 Zos:=mkA Tryz.func217 [] [(3,iR)] {lv:= [(4,⟨[0,1,5],[],[],pV (rCo q5 (rCo q5 q10)),[]⟩)]} trivial
def ZuU:Entry:=⟨aV (rCo q7 (rCo rI q15)),qV (rTu (rCo q19 q18)),fun (x:(List Note)×Int×(List Int))=>Zby x.1 x.2.1 x.2.2⟩
theorem ZFH:Ok gG 165 ZuU:=mkA Tryz.func165 [((217,0),Zos),((150,0),ZjT),((153,0),ZfB),((158,0),ZfD),((89,0),Qt)] [(85,(Zc .shr))] {tk:= [(2,4),(2,6),(3,19)]} ⟨ZuT,Zol,ZjP,ZjS,QP,trivial⟩
def Zot:Entry:=⟨aV (Zb q4),qV q4,fun (x:Town)=>Kn x⟩
theorem ZuV:Ok gG 104 Zot:=mkA Tryz.func104 [((164,0),ZuS),((153,0),ZfB),((165,0),ZuU),((150,0),ZjT),((163,0),ZfI)] [(85,(Zc .shr))] {tk:= [(0,0),(2,2),(4,6),(5,5),(5,6),(5,8),(7,2),(7,4),(7,5),(7,7),(9,0),(9,2),(10,1)],mo:= [(10,0)]} ⟨ZFG,ZjP,ZFH,Zol,ZjZ,trivial⟩
def ZuW:Entry:=⟨aV (rCo q2 q10),qV q12,fun (x:Town×Int)=>Zho x.1 x.2⟩
theorem ZFI:Ok gG 52 ZuW:=mkA Tryz.func52 [((99,0),V4),((100,0),ZfG),((95,0),Za5),((101,0),ZjY),((102,0),ZuP),((103,0),Zor),((104,0),Zot),((97,0),ZfH)] [(26,Zg)] {tk:= [(3,2),(4,3),(7,7),(8,8),(12,2),(12,3),(12,4),(12,6)],mo:= [(12,1)],ao:= [12]} ⟨JX,ZjV,Zcb,Zoo,ZFE,ZuQ,ZuV,ZjX,trivial⟩
def Zj1:Entry:=⟨aV q20,qV rB,fun (x:(List Path)×Control)=>Zbz x.1 x.2⟩
theorem Zou:Ok gG 263 Zj1:=mkA Tryz.func263 [((156,0),JY),((260,0),Zop)] [] {} ⟨KN,ZuM,trivial⟩
def ZuX:Entry:=⟨aV (rCo q9 q15),qV rI,fun (x:(List Want)×(List Int))=>Zhp x.1 x.2⟩
theorem ZFJ:Ok gG 297 ZuX:=mkA Tryz.func297 [((207,0),Za4)] [(79,Zd)] {lv:= [(3,⟨[0,1,5,6],[],[],pV (rCo q9 q27),[]⟩)]} ⟨Zb9,trivial⟩
def Zov:Entry:=⟨aV q17,qV q8,fun (x:(List Path)×Control×(List Want))=>ZeE x.1 x.2.1 x.2.2⟩
theorem ZuY:Ok gG 262 Zov:=mkA Tryz.func262 [((297,0),ZuX),((156,0),JY),((154,0),ZdJ),((208,0),ZjO)] [] {tk:= [(3,1),(4,4)]} ⟨ZFJ,KN,ZfE,Zoi,trivial⟩
def ZuZ:Entry:=⟨aV q17,qV rB,fun (x:(List Path)×Control×(List Want))=>Zhq x.1 x.2.1 x.2.2⟩
theorem ZFK:Ok gG 261 ZuZ:=mkA Tryz.func261 [((207,0),Za4),((263,0),Zj1),((262,0),Zov)] [(79,Zd)] {lv:= [(3,⟨[0,2,7,8],[(4,4,false)],[(4,4,false,false)],pVO (rCo q1 (rCo q9 (rCo rB q10))) (YR (Xe .shr .shr)),[]⟩)]} ⟨Zb9,Zou,ZuY,trivial⟩
def Zow:Entry:=⟨aV (rCo q1 (rCo q6 q15)),qV (rTu (rCo q13 q18)),fun (x:(List Path)×Control×(List Int))=>ZeF x.1 x.2.1 x.2.2⟩
theorem Zu0:Ok gG 220 Zow:=mkA Tryz.func220 [((152,0),Zca),((263,0),Zj1),((212,0),ZfA),((217,0),Zos),((213,0),ZjQ)] [] {tk:= [(1,3),(3,1),(6,3),(6,4),(7,4),(9,1)],mo:= [(3,0),(9,0)]} ⟨ZdI,Zou,ZjN,ZuT,Zoj,trivial⟩
def Zu1:Entry:=⟨aV q17,qV (rTu (rCo q13 (Zb q16))),fun (x:(List Path)×Control×(List Want))=>Zhr x.1 x.2.1 x.2.2⟩
theorem ZFL:Ok gG 218 Zu1:=mkA Tryz.func218 [((156,0),JY),((154,0),ZdJ),((152,0),Zca),((162,0),Zj0),((261,0),ZuZ),((262,0),Zov),((220,0),Zow),((151,0),ZfC),((99,0),V4),((163,0),ZfI)] [(3,iR),(79,Zd)] {tk:= [(1,1),(3,2),(3,5),(3,6),(4,4),(6,7),(6,8),(6,10),(7,3),(12,0),(12,15),(12,16),(13,1),(13,2),(13,3)],mo:= [(13,0)],lv:= [(9,⟨[0,2,8,10,11],[(6,6,false),(9,9,false)],[(6,4,false,false),(9,4,false,false)],pVO (rCo q1 (rCo q9 (rCo q16 (rCo q8 q10)))) (QS (Xe .own .own) (YR (Xe .own .own))),[]⟩)]} ⟨KN,ZfE,ZdI,Zoq,ZFK,ZuY,Zu0,ZjR,JX,ZjZ,trivial⟩
def Zu2:Entry:=⟨aV (rCo q1 (rCo q6 q23)),qV rS,fun (x:(List Path)×Control×Prio)=>Zhs x.1 x.2.1 x.2.2⟩
theorem ZFM:Ok gG 219 Zu2:=mkA Tryz.func219 [((156,0),JY),((155,0),ZfF),((207,0),Za4),((263,0),Zj1)] [] {} ⟨KN,ZjU,Zb9,Zou,trivial⟩
def Zu3:Entry:=⟨aV (rCo q1 (rCo q6 (rCo q9 q23))),qV (rTu (rCo q13 (rCo q16 q23))),fun (x:(List Path)×Control×(List Want)×Prio)=>Zht x.1 x.2.1 x.2.2.1 x.2.2.2⟩
theorem ZFN:Ok gG 166 Zu3:=mkA Tryz.func166 [((156,0),JY),((154,0),ZdJ),((155,0),ZfF),((152,0),Zca),((218,0),Zu1),((219,0),Zu2),((162,0),Zj0),((103,0),Zor),((208,0),ZjO),((220,0),Zow)] [] {tk:= [(2,6),(2,7),(3,4),(3,5),(3,6),(3,8),(3,9),(6,3),(7,4),(9,8),(9,9),(9,11),(10,4),(12,1),(12,9),(13,1),(13,3),(13,4)],mo:= [(13,0)],hb:= [((12,0),1),((12,8),6)]} ⟨KN,ZfE,ZjU,ZdI,ZFL,ZFM,Zoq,ZuQ,Zoi,Zu0,trivial⟩
def Zu4:Entry:=⟨aV (Zb q2),qV q12,fun (x:Town)=>Zhu x⟩
theorem ZFO:Ok gG 105 Zu4:=mkA Tryz.func105 [((100,0),ZfG),((95,0),Za5),((101,0),ZjY),((166,0),Zu3),((104,0),Zot),((97,0),ZfH)] [] {tk:= [(2,2),(3,3),(6,9),(6,10),(6,11),(6,15),(6,16),(7,2),(8,0),(8,2),(10,2),(10,3),(10,4),(10,6)],mo:= [(7,0),(10,1)],ao:= [10]} ⟨ZjV,Zcb,Zoo,ZFN,ZuV,ZjX,trivial⟩
def Zu5:Entry:=⟨aV (rCo q2 q10),qV q12,fun (x:Town×Int)=>Zhv x.1 x.2⟩
theorem ZFP:Ok gG 53 Zu5:=mkA Tryz.func53 [((95,0),Za5),((89,0),Qt),((105,0),Zu4)] [] {tk:= [(1,3),(3,1),(7,2),(7,3),(7,6),(9,2),(10,1),(11,1)],mo:= [(3,0),(10,0),(11,0)],lv:= [(5,⟨[1,7],[(2,2,false),(4,4,false),(6,6,false)],[(2,13,false,false),(4,13,false,false),(6,13,false,false)],pVO q3 (QS (YO .shr .shr .shr .shr .shr .shr .shr) (QS (YO .own .own .own .own .own .own .own) (YR (YO .own .own .own .own .own .own .own)))),[]⟩)]} ⟨Zcb,QP,ZFO,trivial⟩
def Zu6:Entry:=⟨aVG (Zb (rGp 0)) (Yi (Zm .shr)),qVG q4 (Yi (Zm .shr)),fun (x:Unit×L1Cur)=>Zhw x.2⟩
theorem ZFQ:Ok gG 23 Zu6:=mk Tryz.func23 (by kernel_rfl) [((49,0),ZuG),((42,0),KM),((50,0),ZuI),((51,0),ZuK),((52,0),ZuW),((53,0),Zu5)] [] (Xo [42,49]) [] {tk:= [(1,3),(6,5),(6,6),(6,8),(9,5),(9,6),(9,8),(11,5),(11,6),(11,8),(13,5),(13,6),(13,8),(14,1)],mo:= [(14,0)],lv:= [(3,⟨[0,4],[(2,2,false),(3,3,false)],[(2,13,false,false),(3,13,false,false)],Zw9 (rCo (rGp 0) q10) (QS (YO .own .own .own .own .own .own .own) (YR (YO .own .own .own .own .own .own .own))) (Yi (Zm .shr)),[]⟩)]} ⟨ZFw,Za2,ZFy,ZFA,ZFI,ZFP,trivial⟩ trivial (fun x=>by kernel_rfl)
def Zox:Entry:=⟨aVG (Zb (rGp 0)) (Yi (Zm .shr)),qVG rS (Yi (Zm .shr)),fun (x:Unit×L1Cur)=>Zax x.2⟩
theorem Zu7:Ok gG 25 Zox:=mk Tryz.func25 (by kernel_rfl) [((15,0),Zoc)] [] (Xo [15]) [] {} ⟨Zuk,trivial⟩ trivial (fun x=>by kernel_rfl)
def Zu8:Entry:=⟨aV (Zb (rX .shr 1 yR)),qV (rTu (rCo q4 (Zb rS))),fun (x:List Int)=>ZbA x⟩
theorem ZFR:Ok gG 9 Zu8:=mk Tryz.func9 (by kernel_rfl) [((14,0),ZjI),((23,0),Zu6),((24,0),ZjW),((25,0),Zox)] [] (Xo [14,23,24,25]) [] {tk:= [(2,3),(4,1)],hb:= [((5,0),1),((5,3),6)]} ⟨Zn9,ZFQ,Zon,Zu7,trivial⟩ trivial (fun x=>by kernel_rfl)
def Zoy:Entry:=⟨aV (Zb q1),qV (rX .own 4 Zg),fun (x:List Path)=>ZW x⟩
theorem Zu9:Ok gG 55 Zoy:=mkA Tryz.func55 [] [] {tk:= [(3,3)]} trivial
def Zj2:Entry:=⟨aV (Zb q9),qV q16,fun (x:List Want)=>Jw x⟩
theorem Zoz:Ok gG 56 Zj2:=mkA Tryz.func56 [] [] {tk:= [(3,3)]} trivial
def Zva:Entry:=⟨aV (Zb q11),qV (rX .own 3 Zq),fun (x:List Lamp)=>Zhx x⟩
theorem ZFS:Ok gG 57 Zva:=mkA Tryz.func57 [] [] {tk:= [(3,3)]} trivial
def KO:Entry:=⟨aV q15,qV q8,fun (x:List Int)=>Q1 x⟩
theorem Za6:Ok gG 109 KO:=mkA Tryz.func109 [] [] {tk:= [(3,3)]} trivial
def ZdK:Entry:=⟨aV (Zb q6),qV q13,fun (x:Control)=>Jx x⟩
theorem ZfJ:Ok gG 58 ZdK:=mkA Tryz.func58 [((109,0),KO)] [] {tk:= [(1,7),(1,9),(2,1)],mo:= [(2,0)]} ⟨Za6,trivial⟩
def Zj3:Entry:=⟨aV (Zb q7),qV q19,fun (x:List Note)=>ZbB x⟩
theorem ZoA:Ok gG 59 Zj3:=mkA Tryz.func59 [((109,0),KO)] [(85,(Zc .shr))] {tk:= [(1,1),(5,4),(6,0),(6,2),(6,3),(6,4),(8,0),(8,1)],mo:= [(6,1)],lv:= [(3,⟨[3,7,8,9],[],[],pV (rCo q19 (rCo q7 q3)),[]⟩)]} ⟨Za6,trivial⟩
def V5:Entry:=⟨aV (Zb q2),qV q4,fun (x:Town)=>Yt x⟩
theorem JZ:Ok gG 27 V5:=mkA Tryz.func27 [((55,0),Zoy),((56,0),Zj2),((57,0),Zva),((58,0),ZdK),((59,0),Zj3)] [] {tk:= [(1,10),(1,12),(1,14),(2,7),(2,9),(3,1)],mo:= [(3,0)]} ⟨Zu9,Zoz,ZFS,ZfJ,ZoA,trivial⟩
def Zvb:Entry:=⟨aV (Zb q28),qV (rTu (rCo q1 q18)),fun (x:List ByteArray)=>Zhy x⟩
theorem ZFT:Ok gG 28 Zvb:=mkA Tryz.func28 [((6,0),Zof)] [(9,sR)] {tk:= [(1,1),(8,0),(8,3),(8,4),(10,1)],lv:= [(3,⟨[4,10,11,12],[],[],pV (rCo (rX .own 4 Zg) (rCo q28 q3)),[]⟩)]} ⟨Zun,trivial⟩
def V6:Entry:=⟨aV (Zb q1),qV rB,fun (x:List Path)=>Q2 x⟩
theorem J1:Ok gG 110 V6:=mkA Tryz.func110 [((8,0),ZdG)] [(26,Zg)] {lv:= [(4,⟨[0,8,9,10],[],[],pV (rCo q1 q21),[]⟩)]} ⟨Zfz,trivial⟩
def Zvc:Entry:=⟨aV (rCo q5 q10),qV rI,fun (x:(List Int)×Int)=>ZlW x.1 x.2⟩
theorem ZFU:Ok gG 177 Zvc:=mkA Tryz.func177 [] [(3,iR)] {lv:= [(2,⟨[0,1,7,8],[],[],pV (rCo q5 q25),[]⟩)]} trivial
def J3:Entry:=⟨aV (rCo q5 q10),qV rB,fun (x:(List Int)×Int)=>QC x.1 x.2⟩
theorem KP:Ok gG 117 J3:=mkA Tryz.func117 [((177,0),Zvc)] [] {} ⟨ZFU,trivial⟩
def Zvd:Entry:=⟨aV (rCo q5 q22),qV rB,fun (x:(List Int)×Int)=>ZlX x.1 x.2⟩
theorem ZFV:Ok gG 172 Zvd:=mkA Tryz.func172 [((117,0),J3)] [] {} ⟨KP,trivial⟩
def Zve:Entry:=⟨aV (rCo q26 (Zb (rFn 172 q22))),qV rI,fun (x:((List (List Int))×Int))=>ZlY x.1 x.2⟩
theorem ZFW:Ok gG 225 Zve:=mkA Tryz.func225 [((172,0),Zvd)] [(32,q15)] {lv:= [(2,⟨[0,1,7,8],[],[],pV (rCo q26 (rCo (rFn 172 q22) q3)),[]⟩)]} ⟨ZFV,trivial⟩
def Zvf:Entry:=⟨aV (rCo q26 (Zb (rFn 172 q22))),qV rB,fun (x:((List (List Int))×Int))=>ZlZ x.1 x.2⟩
theorem ZFX:Ok gG 171 Zvf:=mkA Tryz.func171 [((225,0),Zve)] [] {} ⟨ZFW,trivial⟩
def ZoB:Entry:=⟨aV (rCo q26 q10),qV rB,fun (x:((List (List Int))×Int))=>ZeG x.1 x.2⟩
theorem Zvg:Ok gG 111 ZoB:=mkA Tryz.func111 [((171,0),Zvf)] [] {} ⟨ZFX,trivial⟩
def Zvh:Entry:=⟨aV (rCo (rAg Zg) q22),qV rB,fun (x:Path×Int)=>Zl0 x.1 x.2⟩
theorem ZFY:Ok gG 194 Zvh:=mkA Tryz.func194 [] [] {} trivial
def Zvi:Entry:=⟨aV (rCo q1 (Zb (rFn 194 q22))),qV rI,fun (x:(List Path)×Int)=>Zl1 x.1 x.2⟩
theorem ZFZ:Ok gG 193 Zvi:=mkA Tryz.func193 [((194,0),Zvh)] [(26,Zg)] {lv:= [(2,⟨[0,1,7,8],[],[],pV (rCo q1 (rCo (rFn 194 q22) q3)),[]⟩)]} ⟨ZFY,trivial⟩
def QQ:Entry:=⟨aV (rCo q1 q10),qV rI,fun (x:(List Path)×Int)=>Xf x.1 x.2⟩
theorem Vh:Ok gG 138 QQ:=mkA Tryz.func138 [((193,0),Zvi)] [] {} ⟨ZFZ,trivial⟩
def Zvj:Entry:=⟨aV q10,qV rI,fun (x:Int)=>Jy x⟩
theorem ZF0:Ok gG 196 Zvj:=mkA Tryz.func196 [((22,0),XU)] [] {} ⟨X6,trivial⟩
def Zvk:Entry:=⟨aV q10,qV rI,fun (x:Int)=>Jz x⟩
theorem ZF1:Ok gG 197 Zvk:=mkA Tryz.func197 [((22,0),XU)] [] {} ⟨X6,trivial⟩
def Zvl:Entry:=⟨aV (rCo rI q25),qV rB,fun (x:Int×Int×Int×Int)=>ZbC x.1 x.2.1 x.2.2.1 x.2.2.2⟩
theorem ZF2:Ok gG 195 Zvl:=mkA Tryz.func195 [((22,0),XU)] [(3,iR)] {lv:= [(2,⟨[0,1,2,3,16,17,18],[],[],pV (rCo rI (rCo rI (rCo rI (rCo rI (rCo q8 q3))))),[]⟩)]} ⟨X6,trivial⟩
def Zcc:Entry:=⟨aV (rCo (rAg Zg) q24),qV rB,fun (x:Path×Path)=>JA x.1 x.2⟩
theorem ZdL:Ok gG 139 Zcc:=mkA Tryz.func139 [((8,0),ZdG),((196,0),Zvj),((197,0),Zvk),((195,0),Zvl)] [] {} ⟨Zfz,ZF0,ZF1,ZF2,trivial⟩
def Zcd:Entry:=⟨aV (rCo q1 q15),qV rB,fun (x:(List Path)×(List Int))=>Vv x.1 x.2⟩
theorem ZdM:Ok gG 173 Zcd:=mkA Tryz.func173 [((110,0),V6),((138,0),QQ),((139,0),Zcc)] [(3,iR),(26,Zg)] {lv:= [(4,⟨[0,1,13,14,15],[],[],pV (rCo q1 (rCo q5 q27)),[]⟩),(10,⟨[0,1,7,13,14,15,40,41,42],[],[],pV (rCo q1 (rCo q5 (rCo rI (rCo q5 (rCo rI (rCo rI q27)))))),[]⟩)]} ⟨J1,Vh,ZdL,trivial⟩
def Zvm:Entry:=⟨aV q10,qV rB,fun (x:Int)=>Zhz x⟩
theorem ZF3:Ok gG 288 Zvm:=mkA Tryz.func288 [] [] {} trivial
def Zvn:Entry:=⟨aV q3,qV rB,fun (x:Int×Int)=>ZhA x.1 x.2⟩
theorem ZF4:Ok gG 265 Zvn:=mkA Tryz.func265 [((288,0),Zvm)] [] {} ⟨ZF3,trivial⟩
def Zvo:Entry:=⟨aV q10,qV rB,fun (x:Int)=>ZhB x⟩
theorem ZF5:Ok gG 266 Zvo:=mkA Tryz.func266 [] [] {} trivial
def Zvp:Entry:=⟨aV (rCo q5 q10),qV (rTu (rCo rI q18)),fun (x:(List Int)×Int)=>ZhC x.1 x.2⟩
theorem ZF6:Ok gG 226 Zvp:=mkA Tryz.func226 [((265,0),Zvn),((266,0),Zvo)] [(3,iR)] {lv:= [(3,⟨[0,1,6,7,8],[],[],pV (rCo q5 (rCo rI q25)),[]⟩)]} ⟨ZF4,ZF5,trivial⟩
def Zvq:Entry:=⟨aV (rCo q5 q10),qV q8,fun (x:(List Int)×Int)=>ZhD x.1 x.2⟩
theorem ZF7:Ok gG 174 Zvq:=mkA Tryz.func174 [((226,0),Zvp),((109,0),KO),((227,0),Zua)] [] {tk:= [(2,5),(2,6)],hb:= [((2,1),2)],rt:= [((2,1),(rX .unq 1 iR))]} ⟨ZF6,Za6,ZE7,trivial⟩
def Zj4:Entry:=⟨aV (rCo q1 q15),qV q8,fun (x:(List Path)×(List Int))=>ZcR x.1 x.2⟩
theorem ZoC:Ok gG 112 Zj4:=mkA Tryz.func112 [((109,0),KO),((173,0),Zcd),((117,0),J3),((174,0),Zvq)] [(26,Zg)] {tk:= [(1,2),(3,0),(3,1),(8,4),(10,0),(10,1),(12,0),(12,1)],lv:= [(5,⟨[0,5,16,17,18],[],[],pV (rCo q1 (rCo q8 q21)),[]⟩)]} ⟨Za6,ZdM,KP,ZF7,trivial⟩
def ZoD:Entry:=⟨aV (Zb q1),qV (rX .own 1 (Zb q8)),fun (x:List Path)=>ZeH x⟩
theorem Zvr:Ok gG 60 ZoD:=mkA Tryz.func60 [((110,0),V6),((111,0),ZoB),((112,0),Zj4)] [(26,Zg)] {tk:= [(1,1),(3,0),(3,1),(8,0),(8,6),(8,7),(8,8),(10,0),(10,1)],lv:= [(5,⟨[0,3,11,12,13],[],[],pV (rCo q1 (rCo (rX .own 1 (Zb q8)) q21)),[]⟩)]} ⟨J1,Zvg,ZoC,trivial⟩
def Zvs:Entry:=⟨aV (rCo q5 (rCo q5 q18)),qV q8,fun (x:(List Int)×(List Int)×Bool)=>Zl2 x.1 x.2.1 x.2.2⟩
theorem ZF8:Ok gG 270 Zvs:=mkA Tryz.func270 [((117,0),J3)] [(3,iR)] {tk:= [(1,1),(6,0),(6,3),(6,4),(8,0),(8,1)],lv:= [(3,⟨[1,2,7,11,12,13],[],[],pV (rCo q5 (rCo rB (rCo q8 q27))),[]⟩)]} ⟨KP,trivial⟩
def Zvt:Entry:=⟨aV (rCo q5 q15),qV q8,fun (x:(List Int)×(List Int))=>ZeI x.1 x.2⟩
theorem ZF9:Ok gG 229 Zvt:=mkA Tryz.func229 [((270,0),Zvs)] [] {tk:= [(1,3)]} ⟨ZF8,trivial⟩
def Zj5:Entry:=⟨aV q24,qV rI,fun (x:Path)=>ZcS x⟩
theorem ZoE:Ok gG 230 Zj5:=mkA Tryz.func230 [((8,0),ZdG)] [] {} ⟨Zfz,trivial⟩
def ZfK:Entry:=⟨aV (rCo q1 (rCo q5 q15)),qV rI,fun (x:(List Path)×(List Int)×(List Int))=>ZbD x.1 x.2.1 x.2.2⟩
theorem Zj6:Ok gG 176 ZfK:=mkA Tryz.func176 [((173,0),Zcd),((229,0),Zvt),((138,0),QQ),((139,0),Zcc),((230,0),Zj5)] [(3,iR),(26,Zg)] {lv:= [(5,⟨[0,1,2,7,26,27,28],[],[],pV (rCo q1 (rCo q5 (rCo q5 (rCo rI (rCo q8 q3))))),[]⟩),(8,⟨[0,1,2,7,9,26,27,28,34,35,36],[],[],pV (rCo q1 (rCo q5 (rCo q5 (rCo rI (rCo rI (rCo q8 (rCo rI (rCo rI (rCo q8 q3))))))))),[]⟩)]} ⟨ZdM,ZF9,Vh,ZdL,ZoE,trivial⟩
def J4:Entry:=⟨aV q20,qV rB,fun (x:(List Path)×Control)=>Vw x.1 x.2⟩
theorem KQ:Ok gG 116 J4:=mkA Tryz.func116 [((173,0),Zcd),((22,0),XU),((176,0),ZfK)] [] {} ⟨ZdM,X6,Zj6,trivial⟩
def ZfL:Entry:=⟨aV q20,qV q8,fun (x:(List Path)×Control)=>ZbE x.1 x.2⟩
theorem Zj7:Ok gG 62 ZfL:=mkA Tryz.func62 [((116,0),J4),((117,0),J3)] [(26,Zg)] {tk:= [(1,1),(3,0),(3,1),(12,0),(12,3),(12,4),(14,0),(14,1)],lv:= [(5,⟨[5,15,16,17],[(3,3,false)],[(3,4,false,false)],pVO (rCo q8 q21) (YR (Xe .shr .shr)),[]⟩)]} ⟨KQ,KP,trivial⟩
def Zvu:Entry:=⟨aV (Zb q7),qV rI,fun (x:List Note)=>ZhE x⟩
theorem ZGa:Ok gG 114 Zvu:=mkA Tryz.func114 [] [(85,(Zc .shr))] {} trivial
def Zvv:Entry:=⟨aV q3,qV rI,fun (x:Int×Int)=>ZhF x.1 x.2⟩
theorem ZGb:Ok gG 269 Zvv:=mkA Tryz.func269 [((22,0),XU)] [] {} ⟨X6,trivial⟩
def Zvw:Entry:=⟨aV q3,qV rI,fun (x:Int×Int)=>ZhG x.1 x.2⟩
theorem ZGc:Ok gG 228 Zvw:=mkA Tryz.func228 [((269,0),Zvv)] [] {} ⟨ZGb,trivial⟩
def Zvx:Entry:=⟨aV q15,qV rI,fun (x:List Int)=>ZhH x⟩
theorem ZGd:Ok gG 175 Zvx:=mkA Tryz.func175 [((228,0),Zvw)] [(3,iR)] {lv:= [(3,⟨[3,6,7,8],[],[],pV (rCo rI q27),[]⟩)]} ⟨ZGc,trivial⟩
def ZoF:Entry:=⟨aV (rCo rI (rCo rI q15)),qV rI,fun (x:Int×Int×(List Int))=>ZcT x.1 x.2.1 x.2.2⟩
theorem Zvy:Ok gG 113 ZoF:=mkA Tryz.func113 [((175,0),Zvx)] [] {} ⟨ZGd,trivial⟩
def ZdN:Entry:=⟨aV (Zb q7),qV rB,fun (x:List Note)=>Zay x⟩
theorem ZfM:Ok gG 115 ZdN:=mkA Tryz.func115 [((22,0),XU),((113,0),ZoF)] [(3,iR),(85,(Zc .shr))] {lv:= [(5,⟨[0,3,11,12,13],[],[],pV (rCo q7 (rCo rI (rCo q7 q3))),[]⟩),(10,⟨[0,11,12,13,66,67,68],[(5,5,false)],[(5,3,false,false)],pVO (rCo q7 (rCo q7 (rCo rI (rCo rI q27)))) (YR (Zc .shr)),[]⟩)]} ⟨X6,Zvy,trivial⟩
def ZoG:Entry:=⟨aV (rCo q7 (rCo rI q15)),qV (rTu (rCo q19 q18)),fun (x:(List Note)×Int×(List Int))=>ZcU x.1 x.2.1 x.2.2⟩
theorem Zvz:Ok gG 61 ZoG:=mkA Tryz.func61 [((59,0),Zj3),((109,0),KO),((114,0),Zvu),((113,0),ZoF),((115,0),ZdN)] [] {tk:= [(1,10),(1,11),(1,12),(1,13),(3,2),(4,0),(4,1)]} ⟨ZoA,Za6,ZGa,Zvy,ZfM,trivial⟩
def ZfN:Entry:=⟨aV (rCo q1 (Zb q9)),qV rB,fun (x:(List Path)×(List Want))=>Ko x.1 x.2⟩
theorem Zj8:Ok gG 118 ZfN:=mkA Tryz.func118 [((110,0),V6),((138,0),QQ),((22,0),XU)] [(79,Zd)] {lv:= [(4,⟨[0,1,10,11,12],[],[],pV (rCo q1 (rCo q9 (rCo q9 q3))),[]⟩)]} ⟨J1,Vh,X6,trivial⟩
def ZoH:Entry:=⟨aV (rCo q1 q10),qV rB,fun (x:(List Path)×Int)=>ZcV x.1 x.2⟩
theorem ZvA:Ok gG 178 ZoH:=mkA Tryz.func178 [((138,0),QQ)] [(26,Zg)] {} ⟨Vh,trivial⟩
def ZfO:Entry:=⟨aV (rCo q1 q23),qV rB,fun (x:(List Path)×Prio)=>ZbF x.1 x.2⟩
theorem Zj9:Ok gG 119 ZfO:=mkA Tryz.func119 [((110,0),V6),((178,0),ZoH),((22,0),XU)] [] {} ⟨J1,ZvA,X6,trivial⟩
def ZoI:Entry:=⟨aV (rCo q1 (Zb q11)),qV rB,fun (x:(List Path)×(List Lamp))=>ZeJ x.1 x.2⟩
theorem ZvB:Ok gG 120 ZoI:=mkA Tryz.func120 [((110,0),V6),((138,0),QQ)] [(82,Zq)] {lv:= [(4,⟨[0,1,12,13,14],[],[],pV (rCo q1 (rCo q11 (rCo q11 q3))),[]⟩),(9,⟨[0,1,12,13,14,36,37,38],[(6,6,false)],[(6,3,false,false)],pVO (rCo q1 (rCo q11 (rCo q11 (rCo rI (rCo rI (rCo q11 q3)))))) (YR Zq),[]⟩)]} ⟨J1,Vh,trivial⟩
def ZoJ:Entry:=⟨aV (rCo q1 q15),qV rB,fun (x:(List Path)×(List Int))=>ZeK x.1 x.2⟩
theorem ZvC:Ok gG 179 ZoJ:=mkA Tryz.func179 [((110,0),V6),((22,0),XU),((139,0),Zcc)] [(3,iR),(26,Zg)] {lv:= [(4,⟨[0,1,19,20,21],[],[],pV (rCo q1 (rCo q5 q21)),[]⟩),(9,⟨[0,1,5,19,20,21,34,35,36],[(6,6,false)],[(6,4,false,false)],pVO (rCo q1 (rCo q5 (rCo rI (rCo q1 (rCo rI (rCo rI q21)))))) (YR Zg),[]⟩)]} ⟨J1,X6,ZdL,trivial⟩
def ZvD:Entry:=⟨aV (rCo q1 (Zb q7)),qV rI,fun (x:(List Path)×(List Note))=>ZhI x.1 x.2⟩
theorem ZGe:Ok gG 121 ZvD:=mkA Tryz.func121 [((115,0),ZdN),((179,0),ZoJ)] [(85,(Zc .shr))] {lv:= [(4,⟨[0,10,11,12],[],[],pV (rCo q1 (rCo q7 q3)),[]⟩)]} ⟨ZfM,ZvC,trivial⟩
def KR:Entry:=⟨aV (Zb q2),qV rB,fun (x:Town)=>Vx x⟩
theorem Za7:Ok gG 63 KR:=mkA Tryz.func63 [((116,0),J4),((118,0),ZfN),((119,0),ZfO),((120,0),ZoI),((115,0),ZdN),((121,0),ZvD),((22,0),XU)] [(85,(Zc .shr))] {} ⟨KQ,Zj8,Zj9,ZvB,ZfM,ZGe,X6,trivial⟩
def ZvE:Entry:=⟨aV (Zb q1),qV q12,fun (x:List Path)=>ZhJ x⟩
theorem ZGf:Ok gG 29 ZvE:=mkA Tryz.func29 [((60,0),ZoD),((55,0),Zoy),((62,0),ZfL),((61,0),ZoG),((63,0),KR)] [(32,(Zb q8))] {tk:= [(1,2),(3,1),(4,2),(4,3),(4,5),(4,6),(4,8),(5,5),(5,6),(5,9),(7,1),(8,1)],mo:= [(4,4),(8,0)],ao:= [4],jr:= [(4,⟨[0],[(2,2,false),(5,5,false)],[(2,13,false,false),(5,13,false,false)],pVO (Zb q1) (QS (YO .own .own .own .own .own .own .own) (YR (YO .own .own .own .own .own .own .own))),[]⟩)]} ⟨Zvr,Zu9,Zj7,Zvz,Za7,trivial⟩
def ZvF:Entry:=⟨aV (rCo q2 (rCo q2 q18)),qV (rTu (rCo q2 (Zb rS))),fun (x:Town×Town×Bool)=>Zaz x.1 x.2.1 x.2.2⟩
theorem ZGg:Ok gG 30 ZvF:=mkA Tryz.func30 [((27,0),V5)] [] {tk:= [(2,2)]} ⟨JZ,trivial⟩
def ZvG:Entry:=⟨aV (Zb rS),qV rI,fun (x:ByteArray)=>ZhK x⟩
theorem ZGh:Ok gG 32 ZvG:=mkA Tryz.func32 [] [] {} trivial
def ZvH:Entry:=⟨aV (rCo q28 q10),qV (rTu (rCo q5 q18)),fun (x:(List ByteArray)×Int)=>ZhL x.1 x.2⟩
theorem ZGi:Ok gG 31 ZvH:=mkA Tryz.func31 [((19,0),Zod)] [(9,sR)] {tk:= [(1,1),(8,0),(8,3),(8,4),(10,1)],lv:= [(3,⟨[1,6,12,13,14],[],[],pV (rCo rI (rCo q8 (rCo q28 q3))),[]⟩)]} ⟨Zum,trivial⟩
def ZvI:Entry:=⟨aV (rCo (rAg Zd) q22),qV rB,fun (x:Want×Int)=>Zl3 x.1 x.2⟩
theorem ZGj:Ok gG 181 ZvI:=mkA Tryz.func181 [] [] {} trivial
def ZvJ:Entry:=⟨aV (rCo q9 (Zb (rFn 181 q22))),qV rI,fun (x:(List Want)×Int)=>Zl4 x.1 x.2⟩
theorem ZGk:Ok gG 231 ZvJ:=mkA Tryz.func231 [((181,0),ZvI)] [(79,Zd)] {lv:= [(2,⟨[0,1,7,8],[],[],pV (rCo q9 (rCo (rFn 181 q22) q3)),[]⟩)]} ⟨ZGj,trivial⟩
def ZvK:Entry:=⟨aV (rCo q9 (Zb (rFn 181 q22))),qV rB,fun (x:(List Want)×Int)=>ZhM x.1 x.2⟩
theorem ZGl:Ok gG 180 ZvK:=mkA Tryz.func180 [((231,0),ZvJ)] [] {} ⟨ZGk,trivial⟩
def ZvL:Entry:=⟨aV (rCo q1 (rCo q9 q10)),qV (rTu (rCo q16 q18)),fun (x:(List Path)×(List Want)×Int)=>ZhN x.1 x.2.1 x.2.2⟩
theorem ZGm:Ok gG 122 ZvL:=mkA Tryz.func122 [((56,0),Zj2),((180,0),ZvK),((182,0),Zub),((118,0),ZfN)] [(79,Zd)] {tk:= [(1,2),(3,0),(3,1),(7,0),(7,5),(7,6),(9,2),(10,0),(10,1)],hb:= [((1,1),2),((3,1),4)],rt:= [((1,1),(rX .unq 2 Zd))],lv:= [(5,⟨[0,1,8,9],[(5,5,false)],[(5,1,false,true)],pVO (rCo q1 (rCo q9 (rCo (rX .unq 2 Zd) q10))) (YR iR),[]⟩)]} ⟨Zoz,ZGl,ZE8,Zj8,trivial⟩
def Zce:Entry:=⟨aV (rCo q2 (rCo q4 q18)),qV q12,fun (x:Town×Town×Bool)=>QD x.1 x.2.1 x.2.2⟩
theorem ZdO:Ok gG 123 Zce:=mkA Tryz.func123 [((63,0),KR),((27,0),V5)] [] {tk:= [(0,1),(2,2),(3,1)],mo:= [(3,0)]} ⟨Za7,JZ,trivial⟩
def ZvM:Entry:=⟨aV (rCo q2 q10),qV q12,fun (x:Town×Int)=>ZhO x.1 x.2⟩
theorem ZGn:Ok gG 64 ZvM:=mkA Tryz.func64 [((27,0),V5),((122,0),ZvL),((123,0),Zce)] [] {tk:= [(1,3),(2,6),(2,7),(2,10),(3,3),(3,4),(3,6)],mo:= [(3,1)]} ⟨JZ,ZGm,ZdO,trivial⟩
def ZvN:Entry:=⟨aV (rCo q1 (rCo (rAg Yb) q10)),qV (rTu (rCo (rAg Yb) q18)),fun (x:(List Path)×Prio×Int)=>ZhP x.1 x.2.1 x.2.2⟩
theorem ZGo:Ok gG 124 ZvN:=mkA Tryz.func124 [((119,0),ZfO),((178,0),ZoH)] [] {} ⟨Zj9,ZvA,trivial⟩
def ZvO:Entry:=⟨aV (rCo q2 q10),qV q12,fun (x:Town×Int)=>ZhQ x.1 x.2⟩
theorem ZGp:Ok gG 65 ZvO:=mkA Tryz.func65 [((27,0),V5),((124,0),ZvN),((123,0),Zce)] [] {tk:= [(1,3),(3,3),(3,4),(3,6)],mo:= [(3,1)]} ⟨JZ,ZGo,ZdO,trivial⟩
def Zka:Entry:=⟨aV (rCo q1 q10),qV rB,fun (x:(List Path)×Int)=>ZcW x.1 x.2⟩
theorem ZoK:Ok gG 125 Zka:=mkA Tryz.func125 [((138,0),QQ)] [(26,Zg)] {} ⟨Vh,trivial⟩
def ZvP:Entry:=⟨aV (Zb (rAg Zq)),qV rB,fun (x:Lamp)=>Zl5 x⟩
theorem ZGq:Ok gG 235 ZvP:=mkA Tryz.func235 [] [] {} trivial
def ZvQ:Entry:=⟨aV (rCo q11 (Zb (rFn 235 Za8))),qV rI,fun (x:(List Lamp)×Unit)=>Zl6 x.1⟩
theorem ZGr:Ok gG 272 ZvQ:=mkA Tryz.func272 [((235,0),ZvP)] [(82,Zq)] {lv:= [(2,⟨[0,1,7,8],[],[],pV (rCo q11 (rCo (rFn 235 Za8) q3)),[]⟩)]} ⟨ZGq,trivial⟩
def ZvR:Entry:=⟨aV (rCo q11 (Zb (rFn 235 Za8))),qV rB,fun (x:(List Lamp)×Unit)=>ZhR x.1⟩
theorem ZGs:Ok gG 234 ZvR:=mkA Tryz.func234 [((272,0),ZvQ)] [] {} ⟨ZGr,trivial⟩
def ZvS:Entry:=⟨aV (rCo q1 (rCo q11 q18)),qV rI,fun (x:(List Path)×(List Lamp)×Bool)=>ZhS x.1 x.2.1 x.2.2⟩
theorem ZGt:Ok gG 183 ZvS:=mkA Tryz.func183 [((120,0),ZoI),((234,0),ZvR)] [] {} ⟨ZvB,ZGs,trivial⟩
def ZdP:Entry:=⟨aV (Zb q2),qV rI,fun (x:Town)=>Vy x⟩
theorem ZfP:Ok gG 126 ZdP:=mkA Tryz.func126 [((183,0),ZvS)] [] {} ⟨ZGt,trivial⟩
def ZfQ:Entry:=⟨aV (rCo q1 q15),qV rI,fun (x:(List Path)×(List Int))=>ZbG x.1 x.2⟩
theorem Zkb:Ok gG 135 ZfQ:=mkA Tryz.func135 [((138,0),QQ)] [(3,iR),(26,Zg)] {lv:= [(2,⟨[0,8,9,10],[],[],pV (rCo q1 q27),[]⟩)]} ⟨Vh,trivial⟩
def ZvT:Entry:=⟨aV q20,qV rB,fun (x:(List Path)×Control)=>ZhT x.1 x.2⟩
theorem ZGu:Ok gG 236 ZvT:=mkA Tryz.func236 [((116,0),J4),((135,0),ZfQ)] [] {} ⟨KQ,Zkb,trivial⟩
def ZvU:Entry:=⟨aV (rCo q1 (rCo q6 q10)),qV (rTu (rCo q13 q18)),fun (x:(List Path)×Control×Int)=>ZhU x.1 x.2.1 x.2.2⟩
theorem ZGv:Ok gG 184 ZvU:=mkA Tryz.func184 [((58,0),ZdK),((236,0),ZvT),((125,0),Zka),((117,0),J3),((176,0),ZfK)] [] {tk:= [(1,3),(3,1),(4,2),(7,0),(7,3),(8,1),(9,0),(9,1),(9,2)],mo:= [(3,0),(8,0)]} ⟨ZfJ,ZGu,ZoK,KP,Zj6,trivial⟩
def Zkc:Entry:=⟨aV q20,qV q13,fun (x:(List Path)×Control)=>ZcX x.1 x.2⟩
theorem ZoL:Ok gG 185 Zkc:=mkA Tryz.func185 [((58,0),ZdK),((116,0),J4),((109,0),KO)] [] {tk:= [(1,3),(2,3),(2,4),(8,1)],mo:= [(8,0)]} ⟨ZfJ,KQ,Za6,trivial⟩
def ZoM:Entry:=⟨aV (rCo q1 (rCo q6 q10)),qV q13,fun (x:(List Path)×Control×Int)=>ZeL x.1 x.2.1 x.2.2⟩
theorem ZvV:Ok gG 127 ZoM:=mkA Tryz.func127 [((184,0),ZvU),((185,0),Zkc)] [] {tk:= [(1,4),(1,5),(1,8),(3,1),(4,3)],mo:= [(3,0)]} ⟨ZGv,ZoL,trivial⟩
def ZoN:Entry:=⟨aV q17,qV q16,fun (x:(List Path)×Control×(List Want))=>ZbH x.1 x.2.1 x.2.2⟩
theorem ZvW:Ok gG 128 ZoN:=mkA Tryz.func128 [((62,0),ZfL),((138,0),QQ)] [(3,iR),(79,Zd)] {tk:= [(1,1),(2,3),(9,0),(9,3),(9,4),(11,0),(11,1)],lv:= [(4,⟨[0,7,8,16,17,18],[],[],pV (rCo q1 (rCo q16 (rCo q8 (rCo q9 q3)))),[]⟩)]} ⟨Zj7,Vh,trivial⟩
def ZoO:Entry:=⟨aV q23,qV (rAg Yb),fun (x:Prio)=>ZbI x⟩
theorem ZvX:Ok gG 129 ZoO:=mkA Tryz.func129 [] [] {} trivial
def ZoP:Entry:=⟨aV (rCo q1 q10),qV q8,fun (x:(List Path)×Int)=>ZeM x.1 x.2⟩
theorem ZvY:Ok gG 133 ZoP:=mkA Tryz.func133 [] [] {tk:= [(1,1),(4,0),(4,3),(4,4),(6,0),(6,1)],lv:= [(3,⟨[1,5,8,9],[],[],pV (rCo rI (rCo q8 q3)),[]⟩)]} trivial
def ZdQ:Entry:=⟨aV (Zb q2),qV q8,fun (x:Town)=>ZaA x⟩
theorem ZfR:Ok gG 71 ZdQ:=mkA Tryz.func71 [((126,0),ZdP),((133,0),ZoP),((62,0),ZfL)] [] {tk:= [(2,3),(3,5)]} ⟨ZfP,ZvY,Zj7,trivial⟩
def ZdR:Entry:=⟨aV (rCo q5 q15),qV rB,fun (x:(List Int)×(List Int))=>Kp x.1 x.2⟩
theorem ZfS:Ok gG 41 ZdR:=mkA Tryz.func41 [] [(3,iR)] {lv:= [(4,⟨[0,1,12,13],[],[],pV (rCo q5 q27),[]⟩)]} trivial
def ZvZ:Entry:=⟨aV (rCo q7 (rCo rI q15)),qV (rTu (rCo q19 q18)),fun (x:(List Note)×Int×(List Int))=>Ql x.1 x.2.1 x.2.2⟩
theorem ZGw:Ok gG 186 ZvZ:=mkA Tryz.func186 [((41,0),ZdR),((61,0),ZoG),((59,0),Zj3),((115,0),ZdN),((22,0),XU)] [(85,(Zc .shr))] {tk:= [(2,4),(2,6),(3,19)]} ⟨ZfS,Zvz,ZoA,ZfM,X6,trivial⟩
def ZfT:Entry:=⟨aV (Zb q4),qV q4,fun (x:Town)=>Q3 x⟩
theorem Zkd:Ok gG 130 ZfT:=mkA Tryz.func130 [((71,0),ZdQ),((186,0),ZvZ)] [(85,(Zc .shr))] {tk:= [(0,0),(1,2),(7,6),(7,7),(7,9),(9,0),(9,2),(10,1),(13,4),(13,6),(13,7),(13,10),(14,1)],mo:= [(10,0),(14,0)]} ⟨ZfR,ZGw,trivial⟩
def Zv0:Entry:=⟨aV (rCo q2 q10),qV q12,fun (x:Town×Int)=>ZhV x.1 x.2⟩
theorem ZGx:Ok gG 66 Zv0:=mkA Tryz.func66 [((63,0),KR),((125,0),Zka),((27,0),V5),((126,0),ZdP),((127,0),ZoM),((128,0),ZoN),((129,0),ZoO),((130,0),ZfT),((123,0),Zce)] [] {tk:= [(2,2),(3,3),(6,7),(7,8),(9,2),(9,3),(9,4),(9,6)],mo:= [(9,1)],ao:= [9]} ⟨Za7,ZoK,JZ,ZfP,ZvV,ZvW,ZvX,Zkd,ZdO,trivial⟩
def Zv1:Entry:=⟨aV (rCo q2 (rCo rI (rCo rI q18))),qV q12,fun (x:Town×Int×Int×Bool)=>ZeN x.1 x.2.1 x.2.2.1 x.2.2.2⟩
theorem ZGy:Ok gG 67 Zv1:=mkA Tryz.func67 [((63,0),KR),((27,0),V5),((130,0),ZfT),((123,0),Zce)] [(82,Zq)] {tk:= [(2,2),(3,3),(13,7),(13,9),(14,2),(14,3),(14,4),(14,6)],hb:= [((3,1),2),((5,1),1),((5,2),7),((7,1),8),((7,2),10),((9,1),1),((9,4),8),((9,5),9),((9,6),11),((13,1),12),((14,1),12)],ao:= [14],rt:= [((3,1),(rAg (YO .unq .unq .unq .unq .unq .unq .unq)))],lv:= [(6,⟨[1,2,3,11,23,24],[(4,4,false),(8,8,false),(10,10,false)],[(4,13,false,false),(8,13,false,false),(10,13,false,false)],pVO (rCo rI (rCo rI (rCo rB (rCo rB q3)))) (QS (YO .shr .shr .shr .shr .shr .shr .shr) (QS (YO .own .own .own .own .own .own .own) (YR (YO .unq .unq .unq .unq .unq .unq .unq)))),[(22,10,0,8)]⟩)]} ⟨Za7,JZ,Zkd,ZdO,trivial⟩
def Zv2:Entry:=⟨aV (rCo q2 q18),qV q12,fun (x:Town×Bool)=>ZhW x.1 x.2⟩
theorem ZGz:Ok gG 68 Zv2:=mkA Tryz.func68 [((63,0),KR),((27,0),V5),((130,0),ZfT),((123,0),Zce)] [] {tk:= [(2,2),(3,3),(5,2),(5,3),(5,4),(5,6)],mo:= [(5,1)],ao:= [5]} ⟨Za7,JZ,Zkd,ZdO,trivial⟩
def Zke:Entry:=⟨aV q20,qV rB,fun (x:(List Path)×Control)=>ZbJ x.1 x.2⟩
theorem ZoQ:Ok gG 273 Zke:=mkA Tryz.func273 [((116,0),J4),((135,0),ZfQ)] [] {} ⟨KQ,Zkb,trivial⟩
def Zv3:Entry:=⟨aV (rCo q1 (rCo q6 q23)),qV rS,fun (x:(List Path)×Control×Prio)=>ZhX x.1 x.2.1 x.2.2⟩
theorem ZGA:Ok gG 237 Zv3:=mkA Tryz.func237 [((116,0),J4),((119,0),ZfO),((117,0),J3),((273,0),Zke)] [] {} ⟨KQ,Zj9,KP,ZoQ,trivial⟩
def ZoR:Entry:=⟨aV (rCo q1 (rCo q6 q15)),qV (rTu (rCo q13 q18)),fun (x:(List Path)×Control×(List Int))=>ZeO x.1 x.2.1 x.2.2⟩
theorem Zv4:Ok gG 238 ZoR:=mkA Tryz.func238 [((58,0),ZdK),((273,0),Zke),((173,0),Zcd),((41,0),ZdR),((176,0),ZfK),((109,0),KO)] [] {tk:= [(1,3),(3,1),(6,4),(7,1),(8,2),(8,3)],mo:= [(3,0),(7,0)]} ⟨ZfJ,ZoQ,ZdM,ZfS,Zj6,Za6,trivial⟩
def Zv5:Entry:=⟨aV (rCo q9 q15),qV rI,fun (x:(List Want)×(List Int))=>ZhY x.1 x.2⟩
theorem ZGB:Ok gG 301 Zv5:=mkA Tryz.func301 [((117,0),J3)] [(79,Zd)] {lv:= [(4,⟨[1,6,10,11,12],[(5,5,false)],[(5,2,false,false)],pVO (rCo q5 (rCo rB (rCo q9 q3))) (YR Zd),[]⟩)]} ⟨KP,trivial⟩
def ZoS:Entry:=⟨aV q17,qV q8,fun (x:(List Path)×Control×(List Want))=>ZeP x.1 x.2.1 x.2.2⟩
theorem Zv6:Ok gG 275 ZoS:=mkA Tryz.func275 [((301,0),Zv5),((116,0),J4),((118,0),ZfN),((112,0),Zj4)] [] {tk:= [(3,1),(4,4)]} ⟨ZGB,KQ,Zj8,ZoC,trivial⟩
def Zv7:Entry:=⟨aV (rCo (rAg Zd) (Zb (rRp (Xe .shr .shr)))),qV rB,fun (x:Want×Control)=>ZhZ x.1 x.2⟩
theorem ZGC:Ok gG 300 Zv7:=mkA Tryz.func300 [((117,0),J3)] [] {} ⟨KP,trivial⟩
def Zv8:Entry:=⟨aV (rCo q9 (Zb (rFn 300 (Zb (rRp (Xe .shr .shr)))))),qV rI,fun (x:(List Want)×Control)=>Zl7 x.1 x.2⟩
theorem ZGD:Ok gG 231 Zv8:=mkA Tryz.func231 [((300,0),Zv7)] [(79,Zd)] {lv:= [(2,⟨[0,1,7,8],[],[],pV (rCo q9 (rCo (rFn 300 (Zb (rRp (Xe .shr .shr)))) q3)),[]⟩)]} ⟨ZGC,trivial⟩
def Zv9:Entry:=⟨aV (rCo q9 (Zb (rFn 300 (Zb (rRp (Xe .shr .shr)))))),qV rB,fun (x:(List Want)×Control)=>Zh0 x.1 x.2⟩
theorem ZGE:Ok gG 180 Zv9:=mkA Tryz.func180 [((231,1),Zv8)] [] {vr:= [((1,2),1)]} ⟨ZGD,trivial⟩
def Zwa:Entry:=⟨aV q17,qV rB,fun (x:(List Path)×Control×(List Want))=>Zh1 x.1 x.2.1 x.2.2⟩
theorem ZGF:Ok gG 274 Zwa:=mkA Tryz.func274 [((273,0),Zke),((275,0),ZoS),((180,1),Zv9)] [] {vr:= [((3,6),1)]} ⟨ZoQ,Zv6,ZGE,trivial⟩
def Zwb:Entry:=⟨aV q17,qV q13,fun (x:(List Path)×Control×(List Want))=>Zh2 x.1 x.2.1 x.2.2⟩
theorem ZGG:Ok gG 239 Zwb:=mkA Tryz.func239 [((274,0),Zwa),((275,0),ZoS),((238,0),ZoR),((185,0),Zkc)] [] {tk:= [(2,7),(2,8),(2,11),(3,1),(4,3)],mo:= [(3,0)]} ⟨ZGF,Zv6,Zv4,ZoL,trivial⟩
def Zwc:Entry:=⟨aV (rCo q1 (rCo q6 (rCo q9 q23))),qV (rTu (rCo q13 (rCo q16 q23))),fun (x:(List Path)×Control×(List Want)×Prio)=>Zh3 x.1 x.2.1 x.2.2.1 x.2.2.2⟩
theorem ZGH:Ok gG 187 Zwc:=mkA Tryz.func187 [((116,0),J4),((118,0),ZfN),((119,0),ZfO),((58,0),ZdK),((56,0),Zj2),((237,0),Zv3),((185,0),Zkc),((112,0),Zj4),((238,0),ZoR),((239,0),Zwb),((128,0),ZoN),((129,0),ZoO)] [] {tk:= [(2,5),(2,6),(3,2),(5,4),(7,3),(9,8),(9,9),(9,11),(10,8)],hb:= [((10,0),1),((10,7),6)]} ⟨KQ,Zj8,Zj9,ZfJ,Zoz,ZGA,ZoL,ZoC,Zv4,ZGG,ZvW,ZvX,trivial⟩
def Zwd:Entry:=⟨aV (Zb q2),qV q12,fun (x:Town)=>ZeQ x⟩
theorem ZGI:Ok gG 131 Zwd:=mkA Tryz.func131 [((63,0),KR),((27,0),V5),((126,0),ZdP),((187,0),Zwc),((130,0),ZfT),((123,0),Zce)] [] {tk:= [(2,2),(3,3),(6,9),(6,10),(6,11),(6,14),(6,16),(7,2),(7,3),(7,4),(7,6)],mo:= [(7,1)],ao:= [7]} ⟨Za7,JZ,ZfP,ZGH,Zkd,ZdO,trivial⟩
def Zwe:Entry:=⟨aV (rCo q2 q10),qV q12,fun (x:Town×Int)=>Zh4 x.1 x.2⟩
theorem ZGJ:Ok gG 69 Zwe:=mkA Tryz.func69 [((22,0),XU),((27,0),V5),((131,0),Zwd)] [] {tk:= [(2,2),(6,2),(6,3),(6,5),(8,2),(10,1)],mo:= [(10,0)],pl:= [5],lv:= [(5,⟨[14,15],[(2,2,false),(4,4,false),(6,6,false)],[(2,13,false,false),(4,13,false,false),(6,13,false,false)],pVO q3 (QS (YO .shr .shr .shr .shr .shr .shr .shr) (QS (YO .own .own .own .own .own .own .own) (YR (YO .own .own .own .own .own .own .own)))),[]⟩)]} ⟨X6,JZ,ZGI,trivial⟩
def Zwf:Entry:=⟨aV (rCo q2 (rCo rS q15)),qV (rTu (rCo q2 (rCo rB q18))),fun (x:Town×ByteArray×(List Int))=>XX x.1 x.2.1 x.2.2⟩
theorem ZGK:Ok gG 33 Zwf:=mkA Tryz.func33 [((64,0),ZvM),((65,0),ZvO),((66,0),Zv0),((67,0),Zv1),((68,0),Zv2),((69,0),Zwe)] [(3,iR)] {tk:= [(5,5),(5,6),(5,8),(7,5),(7,6),(7,8),(9,5),(9,6),(9,8),(12,10),(12,11),(12,13),(14,6),(14,7),(14,9),(16,5),(16,6),(16,8),(17,2)],mo:= [(17,0)]} ⟨ZGn,ZGp,ZGx,ZGy,ZGz,ZGJ,trivial⟩
def ZfU:Entry:=⟨aV (rCo q28 (Zb rS)),qV rS,fun (x:(List ByteArray)×ByteArray)=>VT x.1 x.2⟩
theorem Zkf:Ok gG 132 ZfU:=mkA Tryz.func132 [((188,0),Zuc)] [] {} ⟨ZE9,trivial⟩
def ZoT:Entry:=⟨aV q15,qV rS,fun (x:List Int)=>ZbK x⟩
theorem Zwg:Ok gG 70 ZoT:=mkA Tryz.func70 [((132,0),ZfU)] [(3,iR)] {tk:= [(1,1),(13,0),(13,3),(13,4),(15,0)],lv:= [(3,⟨[3,8,9,10],[],[],pV (rCo (rX .own 1 sR) q27),[]⟩)]} ⟨Zkf,trivial⟩
def Zwh:Entry:=⟨aV (rCo q11 (Zb (rAg Zq))),qV rI,fun (x:(List Lamp)×Lamp)=>Zl8 x.1 x.2⟩
theorem ZGL:Ok gG 278 Zwh:=mkA Tryz.func278 [] [(82,Zq)] {lv:= [(2,⟨[0,7,8],[(3,3,false)],[(3,3,false,false)],pVO (rCo q11 q3) (YR Zq),[]⟩)]} trivial
def Zwi:Entry:=⟨aV (rCo q11 (Zb (rAg Zq))),qV rB,fun (x:(List Lamp)×Lamp)=>Zl9 x.1 x.2⟩
theorem ZGM:Ok gG 243 Zwi:=mkA Tryz.func243 [((278,0),Zwh)] [] {} ⟨ZGL,trivial⟩
def Zwj:Entry:=⟨aV (rCo q11 q3),qV rB,fun (x:(List Lamp)×Int×Int)=>ZeR x.1 x.2.1 x.2.2⟩
theorem ZGN:Ok gG 189 Zwj:=mkA Tryz.func189 [((243,0),Zwi)] [] {} ⟨ZGM,trivial⟩
def Zwk:Entry:=⟨aV (rCo q1 (rCo q11 q15)),qV q8,fun (x:(List Path)×(List Lamp)×(List Int))=>Zh5 x.1 x.2.1 x.2.2⟩
theorem ZGO:Ok gG 134 Zwk:=mkA Tryz.func134 [((189,0),Zwj)] [(3,iR),(26,Zg)] {tk:= [(1,1),(3,0),(3,1),(10,0),(10,3),(10,4),(12,0),(12,1)],lv:= [(5,⟨[1,2,7,18,19,20],[],[],pV (rCo q11 (rCo q5 (rCo q8 q21))),[]⟩)]} ⟨ZGN,trivial⟩
def Zwl:Entry:=⟨aV (Zb q2),qV q8,fun (x:Town)=>Zh6 x⟩
theorem ZGP:Ok gG 72 Zwl:=mkA Tryz.func72 [((126,0),ZdP),((133,0),ZoP),((71,0),ZdQ),((134,0),Zwk)] [] {tk:= [(2,3),(3,7)]} ⟨ZfP,ZvY,ZfR,ZGO,trivial⟩
def ZfV:Entry:=⟨aV q15,qV rS,fun (x:List Int)=>Kq x⟩
theorem Zkg:Ok gG 77 ZfV:=mkA Tryz.func77 [((21,0),Za3),((132,0),ZfU)] [(3,iR)] {tk:= [(1,1),(5,0),(5,4),(5,5),(7,0)],lv:= [(3,⟨[3,7,8,9],[],[],pV (rCo (rX .own 1 sR) q27),[]⟩)]} ⟨Zb7,Zkf,trivial⟩
def Zwm:Entry:=⟨aV (Zb q6),qV rS,fun (x:Control)=>Zh7 x⟩
theorem ZGQ:Ok gG 73 Zwm:=mkA Tryz.func73 [((77,0),ZfV),((21,0),Za3)] [] {} ⟨Zkg,Zb7,trivial⟩
def Zwn:Entry:=⟨aV (Zb q1),qV rS,fun (x:List Path)=>Zh8 x⟩
theorem ZGR:Ok gG 74 Zwn:=mkA Tryz.func74 [((7,0),ZjL),((132,0),ZfU)] [(26,Zg)] {tk:= [(1,1),(5,0),(5,4),(5,5),(7,0)],lv:= [(3,⟨[3,7,8,9],[],[],pV (rCo (rX .own 1 sR) q21),[]⟩)]} ⟨Zoe,Zkf,trivial⟩
def Zwo:Entry:=⟨aV (rCo q1 (Zb q26)),qV rB,fun (x:((List Path)×(List (List Int))))=>Zh9 x.1 x.2⟩
theorem ZGS:Ok gG 190 Zwo:=mkA Tryz.func190 [((110,0),V6),((173,0),Zcd),((111,0),ZoB)] [(26,Zg),(32,q15)] {lv:= [(4,⟨[0,1,12,13,14],[],[],pV (rCo q1 (rCo q26 (rCo q26 q3))),[]⟩),(10,⟨[1,23,24,25],[],[],pV (rCo q26 q21),[]⟩)]} ⟨J1,ZdM,Zvg,trivial⟩
def ZoU:Entry:=⟨aV (rCo q1 (Zb q14)),qV rB,fun (x:(List Path)×(List Part))=>ZeS x.1 x.2⟩
theorem Zwp:Ok gG 136 ZoU:=mkA Tryz.func136 [((22,0),XU),((173,0),Zcd),((135,0),ZfQ),((190,0),Zwo)] [(159,(Zo .shr))] {tk:= [(3,1),(9,0),(9,4),(9,5),(11,1)],lv:= [(5,⟨[0,5,13,14,15],[],[],pV (rCo q1 (rCo (rX .own 1 q15) (rCo q14 q3))),[]⟩)]} ⟨X6,ZdM,Zkb,ZGS,trivial⟩
def Zwq:Entry:=⟨aV (Zb q1),qV (rX .own 2 (Zo .shr)),fun (x:List Path)=>ZeT x⟩
theorem ZGT:Ok gG 76 Zwq:=mkA Tryz.func76 [((60,0),ZoD),((135,0),ZfQ),((136,0),ZoU)] [(32,q15)] {tk:= [(1,1),(5,0),(5,7),(5,8),(8,1),(9,0),(9,1)],lv:= [(3,⟨[0,3,8,9,10],[],[],pV (rCo q1 (rCo (rX .own 2 (Zo .shr)) (rCo (rX .own 1 (Zb q8)) q3))),[]⟩)]} ⟨Zvr,Zkb,Zwp,trivial⟩
def Zwr:Entry:=⟨aV (Zb q14),qV rS,fun (x:List Part)=>Zia x⟩
theorem ZGU:Ok gG 75 Zwr:=mkA Tryz.func75 [((77,0),ZfV),((21,0),Za3),((132,0),ZfU)] [(159,(Zo .shr))] {tk:= [(1,1),(5,0),(5,10),(5,11),(7,0)],lv:= [(3,⟨[3,7,8,9],[],[],pV (rCo (rX .own 1 sR) (rCo q14 q3)),[]⟩)]} ⟨Zkg,Zb7,Zkf,trivial⟩
def Zws:Entry:=⟨aV (Zb q1),qV q26,fun (x:List Path)=>Zib x⟩
theorem ZGV:Ok gG 137 Zws:=mk Tryz.func137 (by kernel_rfl) [((110,0),V6),((139,0),Zcc)] [((191,0),Zt6)] n0 [(26,Zg)] {tk:= [(1,1),(3,0),(3,1),(18,2),(26,0),(26,4),(26,5),(29,0),(29,1),(29,2),(29,4)],hb:= [((1,0),17),((3,1),4),((29,3),18),((30,0),20),((30,1),21),((31,0),22)],vr:= [((29,3),1)],ro:= [(22,iR)],lv:= [(6,⟨[0,3,23,24,25],[(4,22,true)],[(22,1,true,false)],pVO (rCo q1 (rCo (rX .unq 1 (Zb q8)) q21)) (ZdU iR),[]⟩),(9,⟨[0,3,5,23,24,25,30,31,32],[(4,22,true),(6,6,false)],[(6,4,false,false),(22,1,true,false)],pVO (rCo q1 (rCo (rX .unq 1 (Zb q8)) (rCo rI (rCo q1 (rCo rI (rCo rI q21)))))) (QS Zg (ZdU iR)),[]⟩),(16,⟨[0,3,9],[(4,22,true)],[(22,1,true,false)],pVO (rCo q1 (rCo (rX .unq 1 (Zb q8)) q10)) (ZdU iR),[]⟩),(20,⟨[0,3,9,10,11,58,59,60],[(4,22,true)],[(22,1,true,false)],pVO (rCo q1 (rCo (rX .unq 1 (Zb q8)) (rCo rI (rCo rB (rCo q8 q21))))) (ZdU iR),[]⟩)]} ⟨J1,ZdL,trivial⟩ ⟨ZE4,trivial⟩ (fun x=>by kernel_rfl)
def Zwt:Entry:=⟨aV (Zb q1),qV q8,fun (x:List Path)=>Zic x⟩
theorem ZGW:Ok gG 78 Zwt:=mkA Tryz.func78 [((137,0),Zws)] [(32,q15)] {tk:= [(1,1),(5,0),(5,4),(5,5),(7,0),(7,1)],lv:= [(3,⟨[3,8,9,10],[],[],pV (rCo q8 (rCo q26 q3)),[]⟩)]} ⟨ZGV,trivial⟩
def Zwu:Entry:=⟨aV (rCo q1 q10),qV q8,fun (x:(List Path)×Int)=>Zid x.1 x.2⟩
theorem ZGX:Ok gG 79 Zwu:=mkA Tryz.func79 [((138,0),QQ),((110,0),V6),((139,0),Zcc)] [(26,Zg)] {tk:= [(1,1),(4,0),(4,1),(9,0),(9,4),(9,5),(11,0),(11,1)],lv:= [(6,⟨[0,5,6,21,22,23],[],[],pV (rCo q1 (rCo q8 (rCo rI q21))),[]⟩)]} ⟨Vh,J1,ZdL,trivial⟩
def ZoV:Entry:=⟨aV (rCo q14 q10),qV q5,fun (x:(List Part)×Int)=>ZeU x.1 x.2⟩
theorem Zwv:Ok gG 289 ZoV:=mkA Tryz.func289 [] [(159,(Zo .shr))] {} trivial
def ZoW:Entry:=⟨aV (rCo q1 (rCo q14 q10)),qV rI,fun (x:(List Path)×(List Part)×Int)=>ZcY x.1 x.2.1 x.2.2⟩
theorem Zww:Ok gG 247 ZoW:=mkA Tryz.func247 [((289,0),ZoV),((176,0),ZfK)] [(159,(Zo .shr))] {} ⟨Zwv,Zj6,trivial⟩
def ZoX:Entry:=⟨aV (rCo q1 (Zb q14)),qV rI,fun (x:(List Path)×(List Part))=>ZeV x.1 x.2⟩
theorem Zwx:Ok gG 198 ZoX:=mkA Tryz.func198 [((136,0),ZoU),((247,0),ZoW)] [] {lv:= [(5,⟨[0,1,5,12,13],[],[],pV (rCo q1 (rCo q14 q25)),[]⟩)]} ⟨Zwp,Zww,trivial⟩
def Zwy:Entry:=⟨aV (rCo q1 (rCo q14 q10)),qV (rTu q3),fun (x:(List Path)×(List Part)×Int)=>Zie x.1 x.2.1 x.2.2⟩
theorem ZGY:Ok gG 290 Zwy:=mkA Tryz.func290 [((198,0),ZoX),((22,0),XU),((247,0),ZoW)] [] {lv:= [(6,⟨[0,1,9,10],[],[],pV (rCo q1 (rCo q14 q3)),[]⟩)]} ⟨Zwx,X6,Zww,trivial⟩
def Zwz:Entry:=⟨aV (rCo q1 (rCo q14 (rCo rI q24))),qV rI,fun (x:(List Path)×(List Part)×Int×Path)=>Zma x.1 x.2.1 x.2.2.1 x.2.2.2⟩
theorem ZGZ:Ok gG 248 Zwz:=mkA Tryz.func248 [((290,0),Zwy),((117,0),J3),((289,0),ZoV),((230,0),Zj5)] [(159,(Zo .shr))] {} ⟨ZGY,KP,Zwv,ZoE,trivial⟩
def ZwA:Entry:=⟨aV (rCo q1 (rCo q14 q3)),qV rI,fun (x:(List Path)×(List Part)×Int×Int)=>Zif x.1 x.2.1 x.2.2.1 x.2.2.2⟩
theorem ZG0:Ok gG 199 ZwA:=mkA Tryz.func199 [((138,0),QQ),((248,0),Zwz)] [(26,Zg)] {} ⟨Vh,ZGZ,trivial⟩
def ZwB:Entry:=⟨aV (rCo q1 (rCo q14 q10)),qV (rX .own 1 bR),fun (x:(List Path)×(List Part)×Int)=>ZcZ x.1 x.2.1 x.2.2⟩
theorem ZG1:Ok gG 140 ZwB:=mkA Tryz.func140 [((138,0),QQ),((198,0),ZoX),((199,0),ZwA)] [] {ro:= [(16,bR)],lv:= [(5,⟨[0,1,2,18,19],[(7,16,true)],[(16,1,true,false)],pVO (rCo q1 (rCo q14 q25)) (ZdU bR),[]⟩)]} ⟨Vh,Zwx,ZG0,trivial⟩
def ZwC:Entry:=⟨aV (rCo q1 (rCo q14 q10)),qV rI,fun (x:(List Path)×(List Part)×Int)=>Zc0 x.1 x.2.1 x.2.2⟩
theorem ZG2:Ok gG 80 ZwC:=mkA Tryz.func80 [((140,0),ZwB)] [(4,bR)] {tk:= [(1,4),(11,1)],lv:= [(4,⟨[7,8,9,17,18],[],[],pV (rCo (rX .own 1 bR) (rCo rI q25)),[]⟩)]} ⟨ZG1,trivial⟩
def ZwD:Entry:=⟨aV (rCo q1 (rCo q6 q10)),qV rI,fun (x:(List Path)×Control×Int)=>Zig x.1 x.2.1 x.2.2⟩
theorem ZG3:Ok gG 81 ZwD:=mkA Tryz.func81 [((116,0),J4),((125,0),Zka),((138,0),QQ),((62,0),ZfL),((127,0),ZoM)] [(3,iR)] {tk:= [(5,4)],lv:= [(4,⟨[0,2,7,8],[(4,4,false)],[(4,4,false,false)],pVO (rCo q1 q25) (YR (Xe .shr .shr)),[]⟩)]} ⟨KQ,ZoK,Vh,Zj7,ZvV,trivial⟩
def Zkh:Entry:=⟨aV (rCo q7 q10),qV rI,fun (x:(List Note)×Int)=>Zc1 x.1 x.2⟩
theorem ZoY:Ok gG 141 Zkh:=mkA Tryz.func141 [((115,0),ZdN)] [(85,(Zc .shr))] {lv:= [(5,⟨[1,5,12,13,14],[],[],pV (rCo rI (rCo rI (rCo q7 q3))),[]⟩)]} ⟨ZfM,trivial⟩
def ZoZ:Entry:=⟨aV (rCo q7 q10),qV (rTu (rCo q8 q18)),fun (x:(List Note)×Int)=>ZeW x.1 x.2⟩
theorem ZwE:Ok gG 82 ZoZ:=mkA Tryz.func82 [((141,0),Zkh),((109,0),KO)] [(85,(Zc .shr))] {tk:= [(3,1),(4,6)]} ⟨ZoY,Za6,trivial⟩
def Zo0:Entry:=⟨aV (rCo (rAg (Zc .shr)) q10),qV rI,fun (x:Note×Int)=>Zc2 x.1 x.2⟩
theorem ZwF:Ok gG 200 Zo0:=mkA Tryz.func200 [] [(3,iR)] {} trivial
def ZwG:Entry:=⟨aV (rCo q7 q3),qV rI,fun (x:(List Note)×Int×Int)=>ZeX x.1 x.2.1 x.2.2⟩
theorem ZG4:Ok gG 142 ZwG:=mkA Tryz.func142 [((141,0),Zkh),((200,0),Zo0)] [(85,(Zc .shr))] {} ⟨ZoY,ZwF,trivial⟩
def ZwH:Entry:=⟨aV (rCo q7 q3),qV rI,fun (x:(List Note)×Int×Int)=>Zih x.1 x.2.1 x.2.2⟩
theorem ZG5:Ok gG 143 ZwH:=mkA Tryz.func143 [((141,0),Zkh),((200,0),Zo0)] [(85,(Zc .shr))] {lv:= [(4,⟨[0,1,2,7],[],[],pV (rCo q7 q25),[]⟩)]} ⟨ZoY,ZwF,trivial⟩
def ZwI:Entry:=⟨aV (rCo q2 q3),qV (rTu (rCo (rAg Ye) q18)),fun (x:Town×Int×Int)=>Zc3 x.1 x.2.1 x.2.2⟩
theorem ZG6:Ok gG 83 ZwI:=mkA Tryz.func83 [((138,0),QQ),((63,0),KR),((142,0),ZwG),((143,0),ZwH),((139,0),Zcc)] [(26,Zg)] {lv:= [(8,⟨[2,8,48,49,50],[(3,3,false),(6,6,false),(9,9,false)],[(3,13,false,false),(6,5,false,false),(9,5,false,false)],pVO (rCo rI (rCo rI q21)) (QS (YO .shr .shr .shr .shr .shr .shr .shr) (QS Ye (YR Ye))),[]⟩)]} ⟨Vh,Za7,ZG4,ZG5,ZdL,trivial⟩
def ZwJ:Entry:=⟨aV (Zb (rAg Ye)),qV rS,fun (x:Report)=>Zii x⟩
theorem ZG7:Ok gG 84 ZwJ:=mkA Tryz.func84 [((21,0),Za3),((70,0),ZoT)] [] {} ⟨Zb7,Zwg,trivial⟩
def ZwK:Entry:=⟨aV (rCo (rAg Ye) (Zb (rAg Ye))),qV rS,fun (x:Report×Report)=>Zij x.1 x.2⟩
theorem ZG8:Ok gG 85 ZwK:=mkA Tryz.func85 [((22,0),XU)] [] {} ⟨X6,trivial⟩
def ZwL:Entry:=⟨aV q10,qV rS,fun (x:Int)=>Zik x⟩
theorem ZG9:Ok gG 144 ZwL:=mkA Tryz.func144 [] [] {} trivial
def ZwM:Entry:=⟨aV (Zb q2),qV rS,fun (x:Town)=>Zil x⟩
theorem ZHa:Ok gG 86 ZwM:=mkA Tryz.func86 [((21,0),Za3),((126,0),ZdP),((144,0),ZwL),((77,0),ZfV)] [] {} ⟨Zb7,ZfP,ZG9,Zkg,trivial⟩
def ZwN:Entry:=⟨aV (Zb q2),qV rB,fun (x:Town)=>Zim x⟩
theorem ZHb:Ok gG 145 ZwN:=mkA Tryz.func145 [((71,0),ZdQ),((179,0),ZoJ)] [] {} ⟨ZfR,ZvC,trivial⟩
def ZwO:Entry:=⟨aV (Zb q2),qV rB,fun (x:Town)=>Zin x⟩
theorem ZHc:Ok gG 146 ZwO:=mkA Tryz.func146 [((82,0),ZoZ),((71,0),ZdQ),((41,0),ZdR)] [] {tk:= [(1,5),(1,6),(1,8),(2,2)]} ⟨ZwE,ZfR,ZfS,trivial⟩
def ZwP:Entry:=⟨aV (Zb q1),qV rI,fun (x:List Path)=>Zio x⟩
theorem ZHd:Ok gG 249 ZwP:=mkA Tryz.func249 [((110,0),V6),((230,0),Zj5)] [(26,Zg)] {lv:= [(5,⟨[3,10,11,12],[],[],pV (rCo rI q21),[]⟩)]} ⟨J1,ZoE,trivial⟩
def ZwQ:Entry:=⟨aV (Zb q1),qV rI,fun (x:List Path)=>Zip x⟩
theorem ZHe:Ok gG 201 ZwQ:=mkA Tryz.func201 [((249,0),ZwP)] [] {} ⟨ZHd,trivial⟩
def ZwR:Entry:=⟨aV (Zb q2),qV rB,fun (x:Town)=>Ziq x⟩
theorem ZHf:Ok gG 147 ZwR:=mkA Tryz.func147 [((201,0),ZwQ)] [(79,Zd)] {lv:= [(2,⟨[6,7,8],[(1,1,false)],[(1,13,false,false)],pVO (rCo q9 q3) (YR (YO .shr .shr .shr .shr .shr .shr .shr)),[]⟩)]} ⟨ZHe,trivial⟩
def ZwS:Entry:=⟨aV (Zb q2),qV rS,fun (x:Town)=>Zir x⟩
theorem ZHg:Ok gG 87 ZwS:=mkA Tryz.func87 [((63,0),KR),((145,0),ZwN),((146,0),ZwO),((147,0),ZwR)] [] {} ⟨Za7,ZHb,ZHc,ZHf,trivial⟩
def ZwT:Entry:=⟨aV (rCo q2 (rCo rS q15)),qV rS,fun (x:Town×ByteArray×(List Int))=>VU x.1 x.2.1 x.2.2⟩
theorem ZHh:Ok gG 34 ZwT:=mkA Tryz.func34 [((71,0),ZdQ),((70,0),ZoT),((72,0),Zwl),((73,0),Zwm),((74,0),Zwn),((76,0),Zwq),((75,0),Zwr),((78,0),Zwt),((77,0),ZfV),((79,0),Zwu),((80,0),ZwC),((21,0),Za3),((81,0),ZwD),((82,0),ZoZ),((83,0),ZwI),((84,0),ZwJ),((85,0),ZwK),((86,0),ZwM),((87,0),ZwS)] [(3,iR)] {tk:= [(21,6),(21,7),(21,9),(23,0)]} ⟨ZfR,Zwg,ZGP,ZGQ,ZGR,ZGT,ZGU,ZGW,Zkg,ZGX,ZG2,Zb7,ZG3,ZwE,ZG6,ZG7,ZG8,ZHa,ZHg,trivial⟩
def Zo1:Entry:=⟨aV (rCo q2 (Zb rS)),qV (rTu (rCo q2 (Zb rS))),fun (x:Town×ByteArray)=>Y9 x.1 x.2⟩
theorem ZwU:Ok gG 10 Zo1:=mkA Tryz.func10 [((26,0),Zn8),((27,0),V5),((28,0),Zvb),((29,0),ZvE),((30,0),ZvF),((32,0),ZvG),((31,0),ZvH),((33,0),Zwf),((34,0),ZwT)] [(3,iR),(9,sR)] {tk:= [(1,1),(6,0),(6,3),(6,4),(9,2),(11,0),(13,2),(14,2),(14,3),(14,6),(18,2),(21,3),(21,8)],mo:= [(15,1)],lv:= [(3,⟨[1,6,20,21,22],[(2,2,false),(4,4,false)],[(2,13,false,false),(4,13,false,false)],pVO (rCo rS (rCo (rX .own 1 sR) (rCo q28 q3))) (QS (YO .shr .shr .shr .shr .shr .shr .shr) (YR (YO .own .own .own .own .own .own .own))),[]⟩)]} ⟨Zt9,JZ,ZFT,ZGf,ZGg,ZGh,ZGi,ZGK,ZHh,trivial⟩
def ZwV:Entry:=⟨aV (rCo q1 (Zb q1)),qV rB,fun (x:(List Path)×(List Path))=>Zis x.1 x.2⟩
theorem ZHi:Ok gG 35 ZwV:=mkA Tryz.func35 [] [(26,Zg)] {lv:= [(4,⟨[0,1,12,13],[],[],pV (rCo q1 q21),[]⟩)]} trivial
def ZwW:Entry:=⟨aV (rCo q6 (Zb q6)),qV rB,fun (x:Control×Control)=>Zit x.1 x.2⟩
theorem ZHj:Ok gG 36 ZwW:=mkA Tryz.func36 [((41,0),ZdR)] [] {} ⟨ZfS,trivial⟩
def ZwX:Entry:=⟨aV (rCo q9 (Zb q9)),qV rB,fun (x:(List Want)×(List Want))=>Ziu x.1 x.2⟩
theorem ZHk:Ok gG 37 ZwX:=mkA Tryz.func37 [] [(79,Zd)] {lv:= [(4,⟨[0,1,12,13],[],[],pV (rCo q9 (rCo q9 q3)),[]⟩)]} trivial
def ZwY:Entry:=⟨aV (rCo q11 (Zb q11)),qV rB,fun (x:(List Lamp)×(List Lamp))=>Ziv x.1 x.2⟩
theorem ZHl:Ok gG 38 ZwY:=mkA Tryz.func38 [] [(82,Zq)] {lv:= [(4,⟨[0,1,12,13],[],[],pV (rCo q11 (rCo q11 q3)),[]⟩)]} trivial
def ZwZ:Entry:=⟨aV (rCo (rAg (Zc .shr)) (Zb (rAg (Zc .shr)))),qV rB,fun (x:Note×Note)=>Ziw x.1 x.2⟩
theorem ZHm:Ok gG 40 ZwZ:=mkA Tryz.func40 [((41,0),ZdR)] [] {} ⟨ZfS,trivial⟩
def Zw0:Entry:=⟨aV (rCo q7 (rCo q7 (Zb (rFn 40 Za8)))),qV rB,fun (x:(List Note)×(List Note)×Unit)=>Zix x.1 x.2.1⟩
theorem ZHn:Ok gG 39 Zw0:=mkA Tryz.func39 [((40,0),ZwZ)] [(85,(Zc .shr))] {lv:= [(4,⟨[1,2,15,16,17],[],[],pV (rCo q7 (rCo (rFn 40 Za8) (rCo q7 q3))),[]⟩)]} ⟨ZHm,trivial⟩
def Zw1:Entry:=⟨aV (rCo q2 (Zb q2)),qV rB,fun (x:Town×Town)=>XY x.1 x.2⟩
theorem ZHo:Ok gG 11 Zw1:=mkA Tryz.func11 [((35,0),ZwV),((36,0),ZwW),((37,0),ZwX),((38,0),ZwY),((39,0),Zw0)] [] {} ⟨ZHi,ZHj,ZHk,ZHl,ZHn,trivial⟩
def Zw2:Entry:=⟨aV (Zb (rX .shr 1 yR)),qV rS,fun (x:List Int)=>Vz x⟩
theorem ZHp:Ok gG 12 Zw2:=mk Tryz.func12 (by kernel_rfl) [((14,0),ZjI),((24,0),ZjW),((42,0),KM),((25,0),Zox)] [] (Xo [14,24,25,42]) [] {lv:= [(5,⟨[4,5],[],[],pVG (rCo rS q10) (Yi (Zm .shr)),[]⟩),(12,⟨[3,4,6],[],[],pVG (rCo (rGp 0) (rCo rS q10)) (Yi (Zm .shr)),[]⟩)]} ⟨Zn9,Zon,Za2,Zu7,trivial⟩ trivial (fun x=>by kernel_rfl)
def Zw3:Entry:=⟨aV (Zb rS),qV (rTu (rCo (rX .own 1 sR) q18)),fun (x:ByteArray)=>VA x⟩
theorem ZHq:Ok gG 13 Zw3:=mkA Tryz.func13 [((26,0),Zn8),((10,0),Zo1)] [(9,sR)] {tk:= [(6,3),(6,4),(12,0),(12,3),(12,4),(14,0),(14,1)],lv:= [(8,⟨[6,29,30,31],[(5,5,false)],[(5,13,false,false)],pVO (rCo (rX .own 1 sR) (rCo q28 q3)) (YR (YO .shr .shr .shr .shr .shr .shr .shr)),[]⟩)]} ⟨Zt9,ZwU,trivial⟩
def Zki:Entry:=⟨aV (Zb (rX .shr 1 yR)),qV rB,fun (x:List Int)=>Zmb x⟩
theorem ZHr:Ok gG 3 Zki:=mkA Tryz.func3 [((4,0),Zud),((5,0),Zul),((6,0),Zof),((7,0),ZjL),((8,0),ZdG),((9,0),Zu8),((10,0),Zo1),((11,0),Zw1),((12,0),Zw2),((13,0),Zw3)] [(9,sR)] {tk:= [(7,2),(7,3),(7,6),(19,2),(19,3),(19,5),(26,11)],mo:= [(9,4)],lv:= [(12,⟨[0,69,70,71],[(8,8,false)],[(8,13,false,false)],pVO (rCo (rX .shr 1 yR) (rCo (rX .own 1 sR) q3)) (YR (YO .shr .shr .shr .shr .shr .shr .shr)),[]⟩),(22,⟨[14,15,16,17,18],[],[],pV (rCo rS (rCo (rX .own 1 sR) (rCo rB q3))),[]⟩)]} ⟨ZFa,ZFg,Zun,Zoe,Zfz,ZFR,ZwU,ZHo,ZHp,ZHq,trivial⟩
end
end Go.Proofs.YtdnmbglemaogcaaGreatDoor
