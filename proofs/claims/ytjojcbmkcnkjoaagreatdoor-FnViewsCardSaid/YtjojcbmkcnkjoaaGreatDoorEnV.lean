/- Part of the proof: see the last text of the claim. -/
import Derived.Test.YtjojcbmkcnkjoaaGreatDoorShV
import Derived.KernelRfl
import Derived.Test.YtjojcbmkcnkjoaaGreatDoorRows
set_option linter.all false
namespace Go.Proofs.YtjojcbmkcnkjoaaGreatDoor
open Go.Fx Go.Sh
set_option maxRecDepth 100000
set_option linter.unusedSectionVars false
def emS : Value := .string ⟨#[]⟩
def tab : List (Nat × TD) := [(3, .sc (.int .i64 0)),
  (4, .sc (.bool false)),
  (5, .sc (.int .u8 0)),
  (9, .sc emS),
  (22, .sl 5 1),
  (24, .sl 3 1),
  (27, .sl 57 2),
  (32, .st [(none, .int .i64 0), (none, .int .i64 0), (none, .int .i64 0), (none, .int .i64 0), (none, .int .i64 0)] [(0, 1), (1, 1), (2, 1), (3, 1), (4, 1)]),
  (35, .sl 63 4),
  (37, .st [(some 1, .slice none 0 0), (none, .int .i64 0), (some 1, .slice none 0 0), (none, .int .i64 0)] [(0, 1), (1, 1), (2, 1), (3, 1)]),
  (38, .sl 107 2),
  (40, .st [(none, .int .i64 0), (none, .int .i64 0)] [(0, 1), (1, 1)]),
  (41, .sl 101 3),
  (42, .sl 123 3),
  (44, .st [(some 4, .slice none 0 0), (some 1, .slice none 0 0), (none, .int .i64 0), (some 1, .slice none 0 0), (none, .int .i64 0), (some 2, .slice none 0 0), (none, .int .i64 0), (none, .int .i64 0), (some 3, .slice none 0 0), (none, .bool false), (some 3, .slice none 0 0), (none, .int .i64 0), (none, .int .i64 0)] [(0, 1), (1, 4), (5, 1), (6, 2), (8, 1), (9, 1), (10, 1), (11, 1), (12, 1)]),
  (52, .sl 9 1),
  (57, .st [(some 1, .slice none 0 0), (none, .int .i64 0)] [(0, 1), (1, 1)]),
  (63, .st [(none, .int .i64 0), (none, .int .i64 0), (none, .int .i64 0), (none, .int .i64 0)] [(0, 1), (1, 1), (2, 1), (3, 1)]),
  (68, .st [(some 1, .slice none 0 0), (none, .int .i64 0), (none, .int .i64 0)] [(0, 1), (1, 1), (2, 1)]),
  (78, .sc .nilFunc),
  (101, .st [(none, .int .i64 0), (none, .int .i64 0), (none, .bool false)] [(0, 1), (1, 1), (2, 1)]),
  (102, .sc .nilFunc),
  (107, .st [(none, .int .i64 0), (none, .int .i64 0)] [(0, 1), (1, 1)]),
  (123, .st [(none, .int .i64 0), (some 1, .slice none 0 0), (none, .int .i64 0)] [(0, 1), (1, 1), (2, 1)]),
  (131, .sl 24 1)]
theorem tab_ok : TOk Tryz.prog (tabT tab) := tabT_ok (by kernel_rfl)
theorem mixed : Tryz.prog.follows .mixedOrders = true := by kernel_rfl
abbrev nG : Nat := 2
class GOk (gG : Nat → Option Obj) : Prop where
  tab : ∀ w : World, (∀ b, b < nG → w.heap[b]? = gG b) → Lib.TabIs Tryz.prog w "internal/strconv.uint64pow10" .u64 Lib.pow10Tab
variable {gG : Nat → Option Obj} [GOk gG]
abbrev Ok (gG : Nat → Option Obj) (f : Nat) (en : Entry) : Prop := EntryOk Tryz.prog nG gG f en
abbrev n0 : Nat → Bool := fun _ => false
theorem mk {f : Nat} {fn : Func} {en : Entry} (hfn : Tryz.prog.funcs[f]? = some fn) (hname : (fn.name == "runtime.NumGoroutine") = false) (cs us : List ((Nat × Nat) × Entry)) (gs : Nat → Bool) (R : List (Nat × RR)) (h : Hints) (hcs : AllOk Tryz.prog nG gG cs) (hus : AllUOk Tryz.prog nG gG us)
    (hL : ∀ x, evalBody (ctxOf (tabT tab) cs us gs R h fn.ntmps NN) fn en.rs (en.ps.enc x).1 (en.ps.enc x).2 = en.S x) : Ok gG f en := fn_ok tab_ok mixed hfn hname hcs hus hL
def laysJoin_ren : Go.Shelf.Ren := ⟨fun | 156 => 29 | 165 => 39 | 166 => 40 | 169 => 41 | 240 => 62 | 241 => 63 | 276 => 94 | 277 => 95 | n => n, fun | 31 => 52 | 9 => 9 | 3 => 3 | 4 => 4 | 0 => 0 | 20 => 20 | 72 => 83 | 76 => 87 | 70 => 81 | 37 => 22 | 75 => 86 | 127 => 111 | 164 => 137 | 5 => 5 | 80 => 89 | n => n, fun n => n⟩
theorem laysJoin : Go.Proofs.Lays.n156 Tryz.prog laysJoin_ren where
  mixed := by kernel_rfl
  f156 := Tryz.func29.trans (congrArg some (by kernel_rfl))
  f165 := Tryz.func39.trans (congrArg some (by kernel_rfl))
  f166 := Tryz.func40.trans (congrArg some (by kernel_rfl))
  f169 := Tryz.func41.trans (congrArg some (by kernel_rfl))
  f240 := Tryz.func62.trans (congrArg some (by kernel_rfl))
  f241 := Tryz.func63.trans (congrArg some (by kernel_rfl))
  f276 := Tryz.func94.trans (congrArg some (by kernel_rfl))
  f277 := Tryz.func95.trans (congrArg some (by kernel_rfl))
  t0 := Tryz.underlying0
  a0 := Tryz.isAgg0
  z0 := Tryz.sizeOf0
  v0 := Tryz.zeroValue0
  t3 := Tryz.underlying3
  a3 := Tryz.isAgg3
  z3 := Tryz.sizeOf3
  v3 := Tryz.zeroValue3
  t4 := Tryz.underlying4
  a4 := Tryz.isAgg4
  z4 := Tryz.sizeOf4
  v4 := Tryz.zeroValue4
  t9 := Tryz.underlying9
  a9 := Tryz.isAgg9
  z9 := Tryz.sizeOf9
  v9 := Tryz.zeroValue9
  t20 := Tryz.underlying20
  a20 := Tryz.isAgg20
  z20 := Tryz.sizeOf20
  v20 := Tryz.zeroValue20
  t31 := Tryz.underlying52
  a31 := Tryz.isAgg52
  z31 := Tryz.sizeOf52
  v31 := Tryz.zeroValue52
  t37 := Tryz.underlying22
  a37 := Tryz.isAgg22
  z37 := Tryz.sizeOf22
  v37 := Tryz.zeroValue22
  t70 := Tryz.underlying81
  a70 := Tryz.isAgg81
  z70 := Tryz.sizeOf81
  v70 := Tryz.zeroValue81
  t72 := Tryz.underlying83
  a72 := Tryz.isAgg83
  z72 := Tryz.sizeOf83
  v72 := Tryz.zeroValue83
  t75 := Tryz.underlying86
  a75 := Tryz.isAgg86
  z75 := Tryz.sizeOf86
  v75 := Tryz.zeroValue86
  t76 := Tryz.underlying87
  a76 := Tryz.isAgg87
  z76 := Tryz.sizeOf87
  v76 := Tryz.zeroValue87
  t127 := Tryz.underlying111
  a127 := Tryz.isAgg111
  z127 := Tryz.sizeOf111
  v127 := Tryz.zeroValue111
  t164 := Tryz.underlying137
  a164 := Tryz.isAgg137
  z164 := Tryz.sizeOf137
  v164 := Tryz.zeroValue137
theorem laysJoinX : Go.Proofs.Builder.Extra Tryz.prog laysJoin_ren where
  sizeBuilder := by kernel_rfl
  liesBuilder := by kernel_rfl
  t5 := Tryz.underlying5
  a5 := Tryz.isAgg5
  z5 := Tryz.sizeOf5
  v5 := Tryz.zeroValue5
  infoByte := by kernel_rfl
  cellsByte := by kernel_rfl
  sizeByte := by kernel_rfl
  neB5 := by decide
def laysItoa_ren : Go.Shelf.Ren := ⟨fun | 171 => 31 | 243 => 45 | 246 => 67 | 283 => 101 | 284 => 102 | 285 => 103 | 286 => 104 | 129 => 135 | 317 => 134 | 318 => 136 | 319 => 137 | 320 => 138 | 337 => 150 | 338 => 151 | n => n, fun | 3 => 3 | 9 => 9 | 2 => 2 | 4 => 4 | 171 => 143 | 0 => 0 | 53 => 144 | 37 => 22 | 5 => 5 | 173 => 147 | 212 => 175 | 51 => 176 | 20 => 20 | 213 => 177 | 46 => 80 | 232 => 194 | 233 => 195 | n => n, fun | 17 => 1 | 18 => 2 | 19 => 3 | n => n⟩
theorem laysItoa : Go.Proofs.LaysM.n171 Tryz.prog laysItoa_ren where
  mixed := by kernel_rfl
  f129 := Tryz.func135.trans (congrArg some (by kernel_rfl))
  f171 := Tryz.func31.trans (congrArg some (by kernel_rfl))
  f243 := Tryz.func45.trans (congrArg some (by kernel_rfl))
  f246 := Tryz.func67.trans (congrArg some (by kernel_rfl))
  f283 := Tryz.func101.trans (congrArg some (by kernel_rfl))
  f284 := Tryz.func102.trans (congrArg some (by kernel_rfl))
  f285 := Tryz.func103.trans (congrArg some (by kernel_rfl))
  f286 := Tryz.func104.trans (congrArg some (by kernel_rfl))
  f317 := Tryz.func134.trans (congrArg some (by kernel_rfl))
  f318 := Tryz.func136.trans (congrArg some (by kernel_rfl))
  f319 := Tryz.func137.trans (congrArg some (by kernel_rfl))
  f320 := Tryz.func138.trans (congrArg some (by kernel_rfl))
  f337 := Tryz.func150.trans (congrArg some (by kernel_rfl))
  f338 := Tryz.func151.trans (congrArg some (by kernel_rfl))
  t0 := Tryz.underlying0
  a0 := Tryz.isAgg0
  z0 := Tryz.sizeOf0
  v0 := Tryz.zeroValue0
  t2 := Tryz.underlying2
  a2 := Tryz.isAgg2
  z2 := Tryz.sizeOf2
  v2 := Tryz.zeroValue2
  t3 := Tryz.underlying3
  a3 := Tryz.isAgg3
  z3 := Tryz.sizeOf3
  v3 := Tryz.zeroValue3
  t4 := Tryz.underlying4
  a4 := Tryz.isAgg4
  z4 := Tryz.sizeOf4
  v4 := Tryz.zeroValue4
  t5 := Tryz.underlying5
  a5 := Tryz.isAgg5
  z5 := Tryz.sizeOf5
  v5 := Tryz.zeroValue5
  t9 := Tryz.underlying9
  a9 := Tryz.isAgg9
  z9 := Tryz.sizeOf9
  v9 := Tryz.zeroValue9
  t20 := Tryz.underlying20
  a20 := Tryz.isAgg20
  z20 := Tryz.sizeOf20
  v20 := Tryz.zeroValue20
  t37 := Tryz.underlying22
  a37 := Tryz.isAgg22
  z37 := Tryz.sizeOf22
  v37 := Tryz.zeroValue22
  t46 := Tryz.underlying80
  a46 := Tryz.isAgg80
  z46 := Tryz.sizeOf80
  v46 := Tryz.zeroValue80
  t51 := Tryz.underlying176
  a51 := Tryz.isAgg176
  z51 := Tryz.sizeOf176
  v51 := Tryz.zeroValue176
  t53 := Tryz.underlying144
  a53 := Tryz.isAgg144
  z53 := Tryz.sizeOf144
  v53 := Tryz.zeroValue144
  t171 := Tryz.underlying143
  a171 := Tryz.isAgg143
  z171 := Tryz.sizeOf143
  v171 := Tryz.zeroValue143
  t173 := Tryz.underlying147
  a173 := Tryz.isAgg147
  z173 := Tryz.sizeOf147
  v173 := Tryz.zeroValue147
  t212 := Tryz.underlying175
  a212 := Tryz.isAgg175
  z212 := Tryz.sizeOf175
  v212 := Tryz.zeroValue175
  t213 := Tryz.underlying177
  a213 := Tryz.isAgg177
  z213 := Tryz.sizeOf177
  t232 := Tryz.underlying194
  a232 := Tryz.isAgg194
  z232 := Tryz.sizeOf194
  v232 := Tryz.zeroValue194
  t233 := Tryz.underlying195
  a233 := Tryz.isAgg195
  z233 := Tryz.sizeOf195
  v233 := Tryz.zeroValue195
  g17 := by kernel_rfl
  g18 := by kernel_rfl
  g19 := by kernel_rfl
  i0 := by kernel_rfl
  i2 := by kernel_rfl
  i3 := by kernel_rfl
  i4 := by kernel_rfl
  i5 := by kernel_rfl
  i9 := by kernel_rfl
  i20 := by kernel_rfl
  i37 := by kernel_rfl
  i46 := by kernel_rfl
  i51 := by kernel_rfl
  i53 := by kernel_rfl
  i171 := by kernel_rfl
  i173 := by kernel_rfl
  i212 := by kernel_rfl
  i232 := by kernel_rfl
  i233 := by kernel_rfl
  m17 := by kernel_rfl
  m18 := by kernel_rfl
  m19 := by kernel_rfl
noncomputable def E_strings_Join : Entry := ⟨aV (rCo (rX .shr 1 sR) (rOne rS)), qV rS, fun (x : ((List ByteArray) × ByteArray)) => S_strings_Join x.1 x.2⟩
theorem ok_strings_Join : Ok gG 29 E_strings_Join := strings_Join_ok laysJoin laysJoinX rfl Tryz.func29 (by kernel_rfl) (by kernel_rfl)
noncomputable def E_strconv_Itoa : Entry := ⟨aV (rOne rI), qV rS, fun (x : Int) => S_strconv_Itoa x⟩
theorem ok_strconv_Itoa : Ok gG 31 E_strconv_Itoa := strconv_Itoa_ok laysItoa rfl Tryz.func31 (by kernel_rfl) (by kernel_rfl) GOk.tab
noncomputable def E_lbig : Entry := ⟨aV (rOne (rX .shr 1 yR)), qV rB, fun (x : (List Int)) => S_lbig x⟩
theorem ok_lbig : Ok gG 4 E_lbig := mk Tryz.func4 (by kernel_rfl) [] [] n0 [] {} trivial trivial (fun x => by kernel_rfl)
noncomputable def E_sl1New : Entry := ⟨aV (rOne (rX .shr 1 yR)), qVG (rGp 0) (gOne (l1CurR .shr)), fun (x : (List Int)) => S_sl1New x⟩
theorem ok_sl1New : Ok gG 17 E_sl1New := mk Tryz.func17 (by kernel_rfl) [] [] n0 [(5, yR)] { hb := [((0, 0), 16)], lv := [(3, ⟨[0, 3, 4], [], [], pV (rCo (rX .shr 1 yR) (rCo rI (rOne rI))), []⟩)] } trivial trivial (fun x => by kernel_rfl)
noncomputable def E_sl1Byte : Entry := ⟨aVG (rOne (rGp 0)) (gOne (l1CurR .shr)), qVG rI (gOne (l1CurR .shr)), fun (x : (Unit × L1Cur)) => S_sl1Byte x.2⟩
theorem ok_sl1Byte : Ok gG 28 E_sl1Byte := mk Tryz.func28 (by kernel_rfl) [] [] n0 [(5, yR)] {} trivial trivial (fun x => by kernel_rfl)
noncomputable def E_sl1Below : Entry := ⟨aVG (rCo (rGp 0) (rOne rI)) (gOne (l1CurR .shr)), qVG rI (gOne (l1CurR .shr)), fun (x : ((Unit × Int) × L1Cur)) => S_sl1Below x.1.2 x.2⟩
theorem ok_sl1Below : Ok gG 18 E_sl1Below := mk Tryz.func18 (by kernel_rfl) [((28, 0), E_sl1Byte)] [] (memN [28]) [] {} ⟨ok_sl1Byte, trivial⟩ trivial (fun x => by kernel_rfl)
noncomputable def E_sDrawFormatLights : Entry := ⟨aV (rOne (rX .shr 1 yR)), qV (rX .own 1 iR), fun (x : (List Int)) => S_sDrawFormatLights x⟩
theorem ok_sDrawFormatLights : Ok gG 5 E_sDrawFormatLights := mk Tryz.func5 (by kernel_rfl) [((17, 0), E_sl1New), ((18, 0), E_sl1Below)] [] (memN [17, 18]) [] { tk := [(2, 1), (6, 0), (6, 5), (6, 6), (7, 0), (7, 1)], lv := [(4, ⟨[3, 4, 5], [], [], pVG (rCo (rGp 0) (rCo (rX .own 1 iR) (rOne rI))) (gOne (l1CurR .shr)), []⟩)] } ⟨ok_sl1New, ok_sl1Below, trivial⟩ trivial (fun x => by kernel_rfl)
noncomputable def E_ijoined : Entry := ⟨aV (rCo (rX .shr 1 sR) (rOne rS)), qV rS, fun (x : ((List ByteArray) × ByteArray)) => S_ijoined x.1 x.2⟩
theorem ok_ijoined : Ok gG 19 E_ijoined := mk Tryz.func19 (by kernel_rfl) [((29, 0), E_strings_Join)] [] n0 [] {} ⟨ok_strings_Join, trivial⟩ trivial (fun x => by kernel_rfl)
noncomputable def E_iFormatLights : Entry := ⟨aV (rOne (rX .shr 1 iR)), qV rS, fun (x : (List Int)) => S_iFormatLights x⟩
theorem ok_iFormatLights : Ok gG 6 E_iFormatLights := mk Tryz.func6 (by kernel_rfl) [((19, 0), E_ijoined)] [] n0 [(3, iR)] { tk := [(1, 1), (13, 0), (13, 3), (13, 4), (15, 0)], lv := [(3, ⟨[3, 8, 9, 10], [], [], pV (rCo (rX .own 1 sR) (rCo (rX .shr 1 iR) (rCo rI (rOne rI)))), []⟩)] } ⟨ok_ijoined, trivial⟩ trivial (fun x => by kernel_rfl)
noncomputable def E_sl4Draw : Entry := ⟨aVG (rCo (rGp 0) (rOne rI)) (gOne (l1CurR .shr)), qVG (rAg pathR) (gOne (l1CurR .shr)), fun (x : ((Unit × Int) × L1Cur)) => S_sl4Draw x.1.2 x.2⟩
theorem ok_sl4Draw : Ok gG 96 E_sl4Draw := mk Tryz.func96 (by kernel_rfl) [((18, 0), E_sl1Below)] [] (memN [18]) [] {} ⟨ok_sl1Below, trivial⟩ trivial (fun x => by kernel_rfl)
noncomputable def E_sl5Draw : Entry := ⟨aVG (rOne (rGp 0)) (gOne (l1CurR .shr)), qVG (rX .own 4 pathR) (gOne (l1CurR .shr)), fun (x : (Unit × L1Cur)) => S_sl5Draw x.2⟩
theorem ok_sl5Draw : Ok gG 64 E_sl5Draw := mk Tryz.func64 (by kernel_rfl) [((18, 0), E_sl1Below), ((96, 0), E_sl4Draw)] [] (memN [18, 96]) [] { tk := [(1, 1), (5, 0), (5, 5), (5, 6), (6, 0), (6, 1)], lv := [(3, ⟨[0, 3, 4], [], [], pVG (rCo (rGp 0) (rCo (rX .own 4 pathR) (rOne rI))) (gOne (l1CurR .shr)), []⟩)] } ⟨ok_sl1Below, ok_sl4Draw, trivial⟩ trivial (fun x => by kernel_rfl)
noncomputable def E_sl1In : Entry := ⟨aV (rCo rI (rCo rI (rOne rI))), qV rB, fun (x : (Int × Int × Int)) => S_sl1In x.1 x.2.1 x.2.2⟩
theorem ok_sl1In : Ok gG 79 E_sl1In := mk Tryz.func79 (by kernel_rfl) [] [] n0 [] {} trivial trivial (fun x => by kernel_rfl)
noncomputable def E_sIsPath : Entry := ⟨aV (rOne (rAg pathR)), qV rB, fun (x : Path) => S_sIsPath x⟩
theorem ok_sIsPath : Ok gG 82 E_sIsPath := mk Tryz.func82 (by kernel_rfl) [((79, 0), E_sl1In)] [] n0 [] {} ⟨ok_sl1In, trivial⟩ trivial (fun x => by kernel_rfl)
noncomputable def E_sArePaths : Entry := ⟨aV (rOne (rX .shr 4 pathR)), qV rB, fun (x : (List Path)) => S_sArePaths x⟩
theorem ok_sArePaths : Ok gG 116 E_sArePaths := mk Tryz.func116 (by kernel_rfl) [((82, 0), E_sIsPath)] [] n0 [(63, pathR)] { lv := [(2, ⟨[0, 3], [], [], pV (rCo (rX .shr 4 pathR) (rOne rI)), []⟩)] } ⟨ok_sIsPath, trivial⟩ trivial (fun x => by kernel_rfl)
noncomputable def E_sl6Has : Entry := ⟨aV (rCo (rX .shr 1 iR) (rOne rI)), qV rB, fun (x : ((List Int) × Int)) => S_sl6Has x.1 x.2⟩
theorem ok_sl6Has : Ok gG 129 E_sl6Has := mk Tryz.func129 (by kernel_rfl) [] [] n0 [(3, iR)] { lv := [(2, ⟨[0, 1, 5], [], [], pV (rCo (rX .shr 1 iR) (rCo rI (rOne rI))), []⟩)] } trivial trivial (fun x => by kernel_rfl)
noncomputable def E_sFindPath : Entry := ⟨aV (rCo (rX .shr 4 pathR) (rOne rI)), qV rI, fun (x : ((List Path) × Int)) => S_sFindPath x.1 x.2⟩
theorem ok_sFindPath : Ok gG 72 E_sFindPath := mk Tryz.func72 (by kernel_rfl) [] [] n0 [(63, pathR)] { lv := [(2, ⟨[0, 1, 5], [], [], pV (rCo (rX .shr 4 pathR) (rCo rI (rOne rI))), []⟩)] } trivial trivial (fun x => by kernel_rfl)
noncomputable def E_sInPlace : Entry := ⟨aV (rOne rI), qV rI, fun (x : Int) => S_sInPlace x⟩
theorem ok_sInPlace : Ok gG 84 E_sInPlace := mk Tryz.func84 (by kernel_rfl) [((79, 0), E_sl1In)] [] n0 [] {} ⟨ok_sl1In, trivial⟩ trivial (fun x => by kernel_rfl)
noncomputable def E_sOutPlace : Entry := ⟨aV (rOne rI), qV rI, fun (x : Int) => S_sOutPlace x⟩
theorem ok_sOutPlace : Ok gG 85 E_sOutPlace := mk Tryz.func85 (by kernel_rfl) [((79, 0), E_sl1In)] [] n0 [] {} ⟨ok_sl1In, trivial⟩ trivial (fun x => by kernel_rfl)
noncomputable def E_sInterleave : Entry := ⟨aV (rCo rI (rCo rI (rCo rI (rOne rI)))), qV rB, fun (x : (Int × Int × Int × Int)) => S_sInterleave x.1 x.2.1 x.2.2.1 x.2.2.2⟩
theorem ok_sInterleave : Ok gG 83 E_sInterleave := mk Tryz.func83 (by kernel_rfl) [((79, 0), E_sl1In)] [] n0 [(3, iR)] { tk := [(1, 5)], lv := [(3, ⟨[0, 1, 2, 3, 9, 10], [], [], pV (rCo rI (rCo rI (rCo rI (rCo rI (rCo (rX .own 1 iR) (rOne rI)))))), []⟩), (6, ⟨[0, 1, 2, 3, 9, 10, 11], [], [], pV (rCo rI (rCo rI (rCo rI (rCo rI (rCo (rX .own 1 iR) (rCo rI (rOne rI))))))), []⟩), (14, ⟨[1, 2, 3, 12, 13], [], [], pV (rCo rI (rCo rI (rCo rI (rCo rI (rOne rI))))), []⟩)] } ⟨ok_sl1In, trivial⟩ trivial (fun x => by kernel_rfl)
noncomputable def E_sConflict : Entry := ⟨aV (rCo (rAg pathR) (rOne (rAg pathR))), qV rB, fun (x : (Path × Path)) => S_sConflict x.1 x.2⟩
theorem ok_sConflict : Ok gG 51 E_sConflict := mk Tryz.func51 (by kernel_rfl) [((82, 0), E_sIsPath), ((84, 0), E_sInPlace), ((85, 0), E_sOutPlace), ((83, 0), E_sInterleave)] [] n0 [] {} ⟨ok_sIsPath, ok_sInPlace, ok_sOutPlace, ok_sInterleave, trivial⟩ trivial (fun x => by kernel_rfl)
noncomputable def E_sIsTogether : Entry := ⟨aV (rCo (rX .shr 4 pathR) (rOne (rX .shr 1 iR))), qV rB, fun (x : ((List Path) × (List Int))) => S_sIsTogether x.1 x.2⟩
theorem ok_sIsTogether : Ok gG 114 E_sIsTogether := mk Tryz.func114 (by kernel_rfl) [((72, 0), E_sFindPath), ((51, 0), E_sConflict), ((116, 0), E_sArePaths)] [] n0 [(3, iR), (63, pathR)] { lv := [(2, ⟨[0, 1, 5], [], [], pV (rCo (rX .shr 4 pathR) (rCo (rX .shr 1 iR) (rOne rI))), []⟩), (8, ⟨[0, 1, 5, 6, 7], [], [], pV (rCo (rX .shr 4 pathR) (rCo (rX .shr 1 iR) (rCo rI (rCo rI (rOne rI))))), []⟩)] } ⟨ok_sFindPath, ok_sConflict, ok_sArePaths, trivial⟩ trivial (fun x => by kernel_rfl)
noncomputable def E_sl6Put : Entry := ⟨aV (rCo (rX .shr 1 iR) (rOne rI)), qV (rX .own 1 iR), fun (x : ((List Int) × Int)) => S_sl6Put x.1 x.2⟩
theorem ok_sl6Put : Ok gG 131 E_sl6Put := mk Tryz.func131 (by kernel_rfl) [] [] n0 [(3, iR)] { tk := [(5, 3), (6, 7), (6, 12)], lv := [(2, ⟨[0, 1, 5], [], [], pV (rCo (rX .shr 1 iR) (rCo rI (rOne rI))), []⟩)] } trivial trivial (fun x => by kernel_rfl)
noncomputable def E_sAddToStage : Entry := ⟨aV (rCo (rX .shr 4 pathR) (rOne (rX .shr 1 iR))), qV (rX .own 1 iR), fun (x : ((List Path) × (List Int))) => S_sAddToStage x.1 x.2⟩
theorem ok_sAddToStage : Ok gG 130 E_sAddToStage := mk Tryz.func130 (by kernel_rfl) [((114, 0), E_sIsTogether), ((131, 0), E_sl6Put)] [] n0 [(63, pathR)] { tk := [(1, 3), (5, 7), (7, 0), (7, 1), (8, 0), (8, 1)], lv := [(3, ⟨[0, 1, 5, 6], [], [], pV (rCo (rX .shr 4 pathR) (rCo (rX .shr 1 iR) (rCo (rX .own 1 iR) (rOne rI)))), []⟩)] } ⟨ok_sIsTogether, ok_sl6Put, trivial⟩ trivial (fun x => by kernel_rfl)
noncomputable def E_sCoverOf : Entry := ⟨aV (rOne (rX .shr 4 pathR)), qV (rX .own 1 (rOne (rX .shr 1 iR))), fun (x : (List Path)) => S_sCoverOf x⟩
theorem ok_sCoverOf : Ok gG 97 E_sCoverOf := mk Tryz.func97 (by kernel_rfl) [((116, 0), E_sArePaths), ((129, 0), E_sl6Has), ((130, 0), E_sAddToStage), ((131, 0), E_sl6Put)] [] n0 [(3, iR), (63, pathR)] { tk := [(1, 1), (2, 1), (7, 8), (8, 0), (8, 3), (8, 4), (12, 0), (12, 6), (13, 0), (13, 1)], lv := [(4, ⟨[0, 3, 4, 5], [], [], pV (rCo (rX .shr 4 pathR) (rCo (rX .own 1 (rOne (rX .shr 1 iR))) (rCo (rX .own 1 iR) (rOne rI)))), []⟩), (10, ⟨[0, 3, 4, 5, 6, 7], [], [], pV (rCo (rX .shr 4 pathR) (rCo (rX .own 1 (rOne (rX .shr 1 iR))) (rCo (rX .own 1 iR) (rCo rI (rCo (rX .own 1 iR) (rOne rI)))))), []⟩)] } ⟨ok_sArePaths, ok_sl6Has, ok_sAddToStage, ok_sl6Put, trivial⟩ trivial (fun x => by kernel_rfl)
noncomputable def E_sLeastGreen : Entry := ⟨aV (rCo (rX .shr 4 pathR) (rOne (rX .shr 1 iR))), qV rI, fun (x : ((List Path) × (List Int))) => S_sLeastGreen x.1 x.2⟩
theorem ok_sLeastGreen : Ok gG 98 E_sLeastGreen := mk Tryz.func98 (by kernel_rfl) [((72, 0), E_sFindPath)] [] n0 [(3, iR), (63, pathR)] { lv := [(2, ⟨[0, 1, 5], [], [], pV (rCo (rX .shr 4 pathR) (rCo (rX .shr 1 iR) (rOne rI))), []⟩)] } ⟨ok_sFindPath, trivial⟩ trivial (fun x => by kernel_rfl)
noncomputable def E_sl8Stages : Entry := ⟨aV (rOne (rX .shr 2 (partR .shr))), qV (rX .own 1 (rOne (rX .shr 1 iR))), fun (x : (List Part)) => S_sl8Stages x⟩
theorem ok_sl8Stages : Ok gG 133 E_sl8Stages := mk Tryz.func133 (by kernel_rfl) [] [] n0 [(57, (partR .shr))] { tk := [(1, 1), (5, 0), (5, 7), (5, 8), (6, 0), (6, 1)], lv := [(3, ⟨[0, 3, 4], [], [], pV (rCo (rX .shr 2 (partR .shr)) (rCo (rX .own 1 (rOne (rX .shr 1 iR))) (rOne rI))), []⟩)] } trivial trivial (fun x => by kernel_rfl)
noncomputable def E_sCovers : Entry := ⟨aV (rCo (rX .shr 4 pathR) (rOne (rX .shr 1 (rOne (rX .shr 1 iR))))), qV rB, fun (x : ((List Path) × (List (List Int)))) => S_sCovers x.1 x.2⟩
theorem ok_sCovers : Ok gG 132 E_sCovers := mk Tryz.func132 (by kernel_rfl) [((114, 0), E_sIsTogether), ((129, 0), E_sl6Has), ((116, 0), E_sArePaths)] [] n0 [(24, (rOne (rX .shr 1 iR))), (63, pathR)] { lv := [(2, ⟨[0, 1, 5], [], [], pV (rCo (rX .shr 4 pathR) (rCo (rX .shr 1 (rOne (rX .shr 1 iR))) (rOne rI))), []⟩), (7, ⟨[0, 1, 6], [], [], pV (rCo (rX .shr 4 pathR) (rCo (rX .shr 1 (rOne (rX .shr 1 iR))) (rOne rI))), []⟩), (11, ⟨[0, 1, 6, 7, 8], [], [], pV (rCo (rX .shr 4 pathR) (rCo (rX .shr 1 (rOne (rX .shr 1 iR))) (rCo rI (rCo rB (rOne rI))))), []⟩)] } ⟨ok_sIsTogether, ok_sl6Has, ok_sArePaths, trivial⟩ trivial (fun x => by kernel_rfl)
noncomputable def E_sIsPlan : Entry := ⟨aV (rCo (rX .shr 4 pathR) (rOne (rX .shr 2 (partR .shr)))), qV rB, fun (x : ((List Path) × (List Part))) => S_sIsPlan x.1 x.2⟩
theorem ok_sIsPlan : Ok gG 99 E_sIsPlan := mk Tryz.func99 (by kernel_rfl) [((79, 0), E_sl1In), ((114, 0), E_sIsTogether), ((98, 0), E_sLeastGreen), ((133, 0), E_sl8Stages), ((132, 0), E_sCovers)] [] n0 [(57, (partR .shr))] { lv := [(4, ⟨[0, 1, 5], [], [], pV (rCo (rX .shr 4 pathR) (rCo (rX .shr 2 (partR .shr)) (rOne rI))), []⟩)] } ⟨ok_sl1In, ok_sIsTogether, ok_sLeastGreen, ok_sl8Stages, ok_sCovers, trivial⟩ trivial (fun x => by kernel_rfl)
noncomputable def E_sPlanFor_u : Entry := ⟨aV (rOne (rX .shr 4 pathR)), qV (rX .unq 2 (partR .shr)), fun (x : (List Path)) => S_sPlanFor_u x⟩
theorem ok_sPlanFor_u : Ok gG 65 E_sPlanFor_u := mk Tryz.func65 (by kernel_rfl) [((97, 0), E_sCoverOf), ((98, 0), E_sLeastGreen), ((99, 0), E_sIsPlan)] [] n0 [(24, (rOne (rX .shr 1 iR)))] { tk := [(1, 1), (2, 2), (6, 0), (6, 14), (8, 1), (9, 1)], hb := [((1, 0), 17), ((6, 13), 18), ((7, 1), 20), ((7, 2), 2), ((8, 0), 17), ((9, 0), 23)], vr := [((6, 13), 1)], lv := [(4, ⟨[0, 3, 4, 5], [], [], pV (rCo (rX .shr 4 pathR) (rCo (rX .unq 2 (partR .shr)) (rCo (rX .own 1 (rOne (rX .shr 1 iR))) (rOne rI)))), []⟩)] } ⟨ok_sCoverOf, ok_sLeastGreen, ok_sIsPlan, trivial⟩ trivial (fun x => by kernel_rfl)
noncomputable def E_sl8Draw_u : Entry := ⟨aVG (rOne (rGp 0)) (gOne (l1CurR .shr)), qVG (rTu (rCo (rX .own 4 pathR) (rOne (rX .unq 2 (partR .shr))))) (gOne (l1CurR .shr)), fun (x : (Unit × L1Cur)) => S_sl8Draw_u x.2⟩
theorem ok_sl8Draw_u : Ok gG 42 E_sl8Draw_u := mk Tryz.func42 (by kernel_rfl) [((64, 0), E_sl5Draw), ((65, 0), E_sPlanFor_u), ((18, 0), E_sl1Below)] [] (memN [18, 64]) [] { tk := [(1, 2), (6, 2), (12, 0), (12, 2), (12, 3)], hb := [((2, 2), 20), ((7, 2), 20), ((12, 1), 23)], ro := [(5, (partR .shr))], lv := [(4, ⟨[0, 4, 6], [(5, 5, true)], [(5, 2, true, false)], pVOG (rCo (rGp 0) (rCo (rX .own 4 pathR) (rOne rI))) (oArr1 (partR .shr)) (gOne (l1CurR .shr)), []⟩), (9, ⟨[0, 4, 7], [(5, 5, true)], [(5, 2, true, false)], pVOG (rCo (rGp 0) (rCo (rX .own 4 pathR) (rOne rI))) (oArr1 (partR .shr)) (gOne (l1CurR .shr)), []⟩)] } ⟨ok_sl5Draw, ok_sPlanFor_u, ok_sl1Below, trivial⟩ trivial (fun x => by kernel_rfl)
noncomputable def E_sl1Int : Entry := ⟨aVG (rCo (rGp 0) (rOne (rX .shr 1 iR))) (gOne (l1CurR .shr)), qVG rI (gOne (l1CurR .shr)), fun (x : ((Unit × (List Int)) × L1Cur)) => S_sl1Int x.1.2 x.2⟩
theorem ok_sl1Int : Ok gG 43 E_sl1Int := mk Tryz.func43 (by kernel_rfl) [((18, 0), E_sl1Below)] [] (memN [18]) [(3, iR)] {} ⟨ok_sl1Below, trivial⟩ trivial (fun x => by kernel_rfl)
noncomputable def E_sl5Draw_u : Entry := ⟨aVG (rOne (rGp 0)) (gOne (l1CurR .shr)), qVG (rX .unq 4 pathR) (gOne (l1CurR .shr)), fun (x : (Unit × L1Cur)) => S_sl5Draw_u x.2⟩
theorem ok_sl5Draw_u : Ok gG 64 E_sl5Draw_u := mk Tryz.func64 (by kernel_rfl) [((18, 0), E_sl1Below), ((96, 0), E_sl4Draw)] [] (memN [18, 96]) [] { tk := [(1, 1), (5, 0), (5, 6), (6, 0), (6, 1)], hb := [((1, 0), 17), ((5, 5), 18)], vr := [((5, 5), 1)], lv := [(3, ⟨[0, 3, 4], [], [], pVG (rCo (rGp 0) (rCo (rX .unq 4 pathR) (rOne rI))) (gOne (l1CurR .shr)), []⟩)] } ⟨ok_sl1Below, ok_sl4Draw, trivial⟩ trivial (fun x => by kernel_rfl)
noncomputable def E_sl1Once : Entry := ⟨aVG (rCo (rGp 0) (rOne rI)) (gOne (l1CurR .shr)), qVG rB (gOne (l1CurR .shr)), fun (x : ((Unit × Int) × L1Cur)) => S_sl1Once x.1.2 x.2⟩
theorem ok_sl1Once : Ok gG 34 E_sl1Once := mk Tryz.func34 (by kernel_rfl) [((18, 0), E_sl1Below)] [] (memN [18]) [] {} ⟨ok_sl1Below, trivial⟩ trivial (fun x => by kernel_rfl)
noncomputable def E_sl4Raw : Entry := ⟨aVG (rOne (rGp 0)) (gOne (l1CurR .shr)), qVG rI (gOne (l1CurR .shr)), fun (x : (Unit × L1Cur)) => S_sl4Raw x.2⟩
theorem ok_sl4Raw : Ok gG 100 E_sl4Raw := mk Tryz.func100 (by kernel_rfl) [((43, 0), E_sl1Int)] [] (memN [43]) [] {} ⟨ok_sl1Int, trivial⟩ trivial (fun x => by kernel_rfl)
noncomputable def E_sl4Any : Entry := ⟨aVG (rOne (rGp 0)) (gOne (l1CurR .shr)), qVG (rAg pathR) (gOne (l1CurR .shr)), fun (x : (Unit × L1Cur)) => S_sl4Any x.2⟩
theorem ok_sl4Any : Ok gG 66 E_sl4Any := mk Tryz.func66 (by kernel_rfl) [((18, 0), E_sl1Below), ((96, 0), E_sl4Draw), ((43, 0), E_sl1Int), ((100, 0), E_sl4Raw)] [] (memN [18, 43, 96, 100]) [] {} ⟨ok_sl1Below, ok_sl4Draw, ok_sl1Int, ok_sl4Raw, trivial⟩ trivial (fun x => by kernel_rfl)
noncomputable def E_sl5Any : Entry := ⟨aVG (rOne (rGp 0)) (gOne (l1CurR .shr)), qVG (rX .own 4 pathR) (gOne (l1CurR .shr)), fun (x : (Unit × L1Cur)) => S_sl5Any x.2⟩
theorem ok_sl5Any : Ok gG 44 E_sl5Any := mk Tryz.func44 (by kernel_rfl) [((64, 1), E_sl5Draw_u), ((34, 0), E_sl1Once), ((18, 0), E_sl1Below), ((66, 0), E_sl4Any)] [] (memN [18, 34, 64, 66]) [] { th := [(1, 1)], vr := [((1, 1), 1)], ro := [(5, pathR)] } ⟨ok_sl5Draw_u, ok_sl1Once, ok_sl1Below, ok_sl4Any, trivial⟩ trivial (fun x => by kernel_rfl)
noncomputable def E_sl8Any : Entry := ⟨aVG (rOne (rGp 0)) (gOne (l1CurR .shr)), qVG (rTu (rCo (rX .own 4 pathR) (rOne (rX .shr 2 (partR .shr))))) (gOne (l1CurR .shr)), fun (x : (Unit × L1Cur)) => S_sl8Any x.2⟩
theorem ok_sl8Any : Ok gG 30 E_sl8Any := mk Tryz.func30 (by kernel_rfl) [((42, 0), E_sl8Draw_u), ((18, 0), E_sl1Below), ((43, 0), E_sl1Int), ((44, 0), E_sl5Any)] [] (memN [18, 42, 43, 44]) [] { tk := [(1, 2), (1, 3), (1, 4), (1, 5), (3, 0), (3, 2), (11, 2), (14, 0), (14, 2)], hb := [((13, 0), 22), ((14, 1), 22)], th := [(1, 4)], ro := [(11, (partR .shr))] } ⟨ok_sl8Draw_u, ok_sl1Below, ok_sl1Int, ok_sl5Any, trivial⟩ trivial (fun x => by kernel_rfl)
noncomputable def E_sDrawIsPlan : Entry := ⟨aV (rOne (rX .shr 1 yR)), qV (rTu (rCo (rX .own 4 pathR) (rOne (rX .shr 2 (partR .shr))))), fun (x : (List Int)) => S_sDrawIsPlan x⟩
theorem ok_sDrawIsPlan : Ok gG 20 E_sDrawIsPlan := mk Tryz.func20 (by kernel_rfl) [((17, 0), E_sl1New), ((30, 0), E_sl8Any)] [] (memN [17, 30]) [] { tk := [(2, 2), (2, 4)] } ⟨ok_sl1New, ok_sl8Any, trivial⟩ trivial (fun x => by kernel_rfl)
noncomputable def E_sDrawFormatPlan : Entry := ⟨aV (rOne (rX .shr 1 yR)), qV (rX .shr 2 (partR .shr)), fun (x : (List Int)) => S_sDrawFormatPlan x⟩
theorem ok_sDrawFormatPlan : Ok gG 7 E_sDrawFormatPlan := mk Tryz.func7 (by kernel_rfl) [((20, 0), E_sDrawIsPlan)] [] n0 [] { tk := [(1, 2), (1, 3), (1, 5)] } ⟨ok_sDrawIsPlan, trivial⟩ trivial (fun x => by kernel_rfl)
noncomputable def E_iFormatInt : Entry := ⟨aV (rOne rI), qV rS, fun (x : Int) => S_iFormatInt x⟩
theorem ok_iFormatInt : Ok gG 21 E_iFormatInt := mk Tryz.func21 (by kernel_rfl) [((31, 0), E_strconv_Itoa)] [] n0 [] {} ⟨ok_strconv_Itoa, trivial⟩ trivial (fun x => by kernel_rfl)
noncomputable def E_iFormatNumbers : Entry := ⟨aV (rOne (rX .shr 1 iR)), qV rS, fun (x : (List Int)) => S_iFormatNumbers x⟩
theorem ok_iFormatNumbers : Ok gG 13 E_iFormatNumbers := mk Tryz.func13 (by kernel_rfl) [((21, 0), E_iFormatInt), ((19, 0), E_ijoined)] [] n0 [(3, iR)] { tk := [(1, 1), (5, 0), (5, 4), (5, 5), (7, 0)], lv := [(3, ⟨[3, 7, 8, 9], [], [], pV (rCo (rX .own 1 sR) (rCo (rX .shr 1 iR) (rCo rI (rOne rI)))), []⟩)] } ⟨ok_iFormatInt, ok_ijoined, trivial⟩ trivial (fun x => by kernel_rfl)
noncomputable def E_iFormatPlan : Entry := ⟨aV (rOne (rX .shr 2 (partR .shr))), qV rS, fun (x : (List Part)) => S_iFormatPlan x⟩
theorem ok_iFormatPlan : Ok gG 8 E_iFormatPlan := mk Tryz.func8 (by kernel_rfl) [((13, 0), E_iFormatNumbers), ((21, 0), E_iFormatInt), ((19, 0), E_ijoined)] [] n0 [(57, (partR .shr))] { tk := [(1, 1), (5, 0), (5, 10), (5, 11), (7, 0)], lv := [(3, ⟨[3, 7, 8, 9], [], [], pV (rCo (rX .own 1 sR) (rCo (rX .shr 2 (partR .shr)) (rCo rI (rOne rI)))), []⟩)] } ⟨ok_iFormatNumbers, ok_iFormatInt, ok_ijoined, trivial⟩ trivial (fun x => by kernel_rfl)
noncomputable def E_sl14Copy : Entry := ⟨aV (rOne (rAg (controlR .shr .shr))), qV (rAg (controlR .own .own)), fun (x : Control) => S_sl14Copy x⟩
theorem ok_sl14Copy : Ok gG 124 E_sl14Copy := mk Tryz.func124 (by kernel_rfl) [] [] n0 [] { tk := [(1, 12), (1, 13)] } trivial trivial (fun x => by kernel_rfl)
noncomputable def E_sl27Copy : Entry := ⟨aV (rOne (rX .shr 3 (noteR .shr))), qV (rX .own 3 (noteR .own)), fun (x : (List Note)) => S_sl27Copy x⟩
theorem ok_sl27Copy : Ok gG 139 E_sl27Copy := mk Tryz.func139 (by kernel_rfl) [] [] n0 [(123, (noteR .shr))] { tk := [(1, 1), (5, 0), (5, 18), (5, 19), (5, 20), (5, 21), (6, 0), (6, 1)], lv := [(3, ⟨[0, 3, 4], [], [], pV (rCo (rX .shr 3 (noteR .shr)) (rCo (rX .own 3 (noteR .own)) (rOne rI))), []⟩)] } trivial trivial (fun x => by kernel_rfl)
noncomputable def E_sl33Copy : Entry := ⟨aV (rOne (rAg (townR .shr .shr .shr .shr .shr .shr .shr))), qV (rAg (townR .own .own .own .own .own .own .own)), fun (x : Town) => S_sl33Copy x⟩
theorem ok_sl33Copy : Ok gG 105 E_sl33Copy := mk Tryz.func105 (by kernel_rfl) [((124, 0), E_sl14Copy), ((139, 0), E_sl27Copy)] [] n0 [] { tk := [(1, 26), (1, 27)] } ⟨ok_sl14Copy, ok_sl27Copy, trivial⟩ trivial (fun x => by kernel_rfl)
noncomputable def E_sCloses : Entry := ⟨aV (rCo (rX .shr 1 iR) (rOne (rX .shr 1 iR))), qV (rX .own 1 iR), fun (x : ((List Int) × (List Int))) => S_sCloses x.1 x.2⟩
theorem ok_sCloses : Ok gG 144 E_sCloses := mk Tryz.func144 (by kernel_rfl) [((129, 0), E_sl6Has)] [] n0 [(3, iR)] { tk := [(1, 1), (6, 0), (6, 6), (6, 7), (7, 0), (7, 1)], lv := [(3, ⟨[0, 1, 5, 6], [], [], pV (rCo (rX .shr 1 iR) (rCo (rX .shr 1 iR) (rCo (rX .own 1 iR) (rOne rI)))), []⟩)] } ⟨ok_sl6Has, trivial⟩ trivial (fun x => by kernel_rfl)
noncomputable def E_sClearOf : Entry := ⟨aV (rOne (rAg pathR)), qV rI, fun (x : Path) => S_sClearOf x⟩
theorem ok_sClearOf : Ok gG 146 E_sClearOf := mk Tryz.func146 (by kernel_rfl) [((82, 0), E_sIsPath)] [] n0 [(3, iR)] {} ⟨ok_sIsPath, trivial⟩ trivial (fun x => by kernel_rfl)
noncomputable def E_sMax : Entry := ⟨aV (rCo rI (rOne rI)), qV rI, fun (x : (Int × Int)) => S_sMax x.1 x.2⟩
theorem ok_sMax : Ok gG 145 E_sMax := mk Tryz.func145 (by kernel_rfl) [] [] n0 [] {} trivial trivial (fun x => by kernel_rfl)
noncomputable def E_sClearBetween : Entry := ⟨aV (rCo (rX .shr 4 pathR) (rCo (rX .shr 1 iR) (rOne (rX .shr 1 iR)))), qV rI, fun (x : ((List Path) × (List Int) × (List Int))) => S_sClearBetween x.1 x.2.1 x.2.2⟩
theorem ok_sClearBetween : Ok gG 115 E_sClearBetween := mk Tryz.func115 (by kernel_rfl) [((144, 0), E_sCloses), ((114, 0), E_sIsTogether), ((72, 0), E_sFindPath), ((51, 0), E_sConflict), ((146, 0), E_sClearOf), ((145, 0), E_sMax)] [] n0 [(3, iR), (63, pathR)] { tk := [(2, 3), (3, 3)], lv := [(5, ⟨[0, 1, 2, 7, 8, 9, 10], [], [], pV (rCo (rX .shr 4 pathR) (rCo (rX .shr 1 iR) (rCo (rX .shr 1 iR) (rCo rI (rCo (rX .own 1 iR) (rCo (rX .own 1 iR) (rOne rI))))))), []⟩), (8, ⟨[0, 1, 2, 7, 8, 9, 10, 11], [], [], pV (rCo (rX .shr 4 pathR) (rCo (rX .shr 1 iR) (rCo (rX .shr 1 iR) (rCo rI (rCo (rX .own 1 iR) (rCo (rX .own 1 iR) (rCo rI (rOne rI)))))))), []⟩)] } ⟨ok_sCloses, ok_sIsTogether, ok_sFindPath, ok_sConflict, ok_sClearOf, ok_sMax, trivial⟩ trivial (fun x => by kernel_rfl)
noncomputable def E_sIsControl : Entry := ⟨aV (rCo (rX .shr 4 pathR) (rOne (rAg (controlR .shr .shr)))), qV rB, fun (x : ((List Path) × Control)) => S_sIsControl x.1 x.2⟩
theorem ok_sIsControl : Ok gG 73 E_sIsControl := mk Tryz.func73 (by kernel_rfl) [((114, 0), E_sIsTogether), ((79, 0), E_sl1In), ((115, 0), E_sClearBetween)] [] n0 [] {} ⟨ok_sIsTogether, ok_sl1In, ok_sClearBetween, trivial⟩ trivial (fun x => by kernel_rfl)
noncomputable def E_sLightsOf : Entry := ⟨aV (rCo (rX .shr 4 pathR) (rOne (rAg (controlR .shr .shr)))), qV (rX .own 1 iR), fun (x : ((List Path) × Control)) => S_sLightsOf x.1 x.2⟩
theorem ok_sLightsOf : Ok gG 122 E_sLightsOf := mk Tryz.func122 (by kernel_rfl) [((73, 0), E_sIsControl), ((129, 0), E_sl6Has)] [] n0 [(63, pathR)] { tk := [(1, 1), (10, 0), (10, 3), (10, 4), (11, 0), (11, 1)], lv := [(3, ⟨[0, 5, 6], [(3, 3, false)], [(3, 4, false, false)], pVO (rCo (rX .shr 4 pathR) (rCo (rX .own 1 iR) (rOne rI))) (oRow1 (controlR .shr .shr)), []⟩)] } ⟨ok_sIsControl, ok_sl6Has, trivial⟩ trivial (fun x => by kernel_rfl)
noncomputable def E_sLastSeal : Entry := ⟨aV (rOne (rX .shr 3 (noteR .shr))), qV rI, fun (x : (List Note)) => S_sLastSeal x⟩
theorem ok_sLastSeal : Ok gG 148 E_sLastSeal := mk Tryz.func148 (by kernel_rfl) [] [] n0 [(123, (noteR .shr))] {} trivial trivial (fun x => by kernel_rfl)
noncomputable def E_sMod : Entry := ⟨aV (rCo rI (rOne rI)), qV rI, fun (x : (Int × Int)) => S_sMod x.1 x.2⟩
theorem ok_sMod : Ok gG 156 E_sMod := mk Tryz.func156 (by kernel_rfl) [((79, 0), E_sl1In)] [] n0 [] {} ⟨ok_sl1In, trivial⟩ trivial (fun x => by kernel_rfl)
noncomputable def E_sHash : Entry := ⟨aV (rOne (rX .shr 1 iR)), qV rI, fun (x : (List Int)) => S_sHash x⟩
theorem ok_sHash : Ok gG 147 E_sHash := mk Tryz.func147 (by kernel_rfl) [((156, 0), E_sMod)] [] n0 [(3, iR)] { lv := [(3, ⟨[0, 3, 4], [], [], pV (rCo (rX .shr 1 iR) (rCo rI (rOne rI))), []⟩)] } ⟨ok_sMod, trivial⟩ trivial (fun x => by kernel_rfl)
noncomputable def E_sSealOf : Entry := ⟨aV (rCo rI (rCo rI (rOne (rX .shr 1 iR)))), qV rI, fun (x : (Int × Int × (List Int))) => S_sSealOf x.1 x.2.1 x.2.2⟩
theorem ok_sSealOf : Ok gG 117 E_sSealOf := mk Tryz.func117 (by kernel_rfl) [((147, 0), E_sHash)] [] n0 [] {} ⟨ok_sHash, trivial⟩ trivial (fun x => by kernel_rfl)
noncomputable def E_sIsRecord : Entry := ⟨aV (rOne (rX .shr 3 (noteR .shr))), qV rB, fun (x : (List Note)) => S_sIsRecord x⟩
theorem ok_sIsRecord : Ok gG 77 E_sIsRecord := mk Tryz.func77 (by kernel_rfl) [((117, 0), E_sSealOf), ((79, 0), E_sl1In)] [] n0 [(3, iR), (123, (noteR .shr))] { lv := [(3, ⟨[0, 3, 4], [], [], pV (rCo (rX .shr 3 (noteR .shr)) (rCo rI (rOne rI))), []⟩), (9, ⟨[0, 3, 4, 5], [], [], pV (rCo (rX .shr 3 (noteR .shr)) (rCo rI (rCo rI (rOne rI)))), []⟩)] } ⟨ok_sSealOf, ok_sl1In, trivial⟩ trivial (fun x => by kernel_rfl)
noncomputable def E_sAddEntry : Entry := ⟨aV (rCo (rX .shr 3 (noteR .shr)) (rCo rI (rOne (rX .shr 1 iR)))), qV (rTu (rCo (rX .own 3 (noteR .own)) (rOne rB))), fun (x : ((List Note) × Int × (List Int))) => S_sAddEntry x.1 x.2.1 x.2.2⟩
theorem ok_sAddEntry : Ok gG 121 E_sAddEntry := mk Tryz.func121 (by kernel_rfl) [((139, 0), E_sl27Copy), ((148, 0), E_sLastSeal), ((117, 0), E_sSealOf), ((77, 0), E_sIsRecord)] [] n0 [] { tk := [(1, 11), (1, 12), (1, 13), (1, 14), (3, 2), (4, 0), (4, 1)] } ⟨ok_sl27Copy, ok_sLastSeal, ok_sSealOf, ok_sIsRecord, trivial⟩ trivial (fun x => by kernel_rfl)
noncomputable def E_sAreWants : Entry := ⟨aV (rCo (rX .shr 4 pathR) (rOne (rX .shr 2 wantR))), qV rB, fun (x : ((List Path) × (List Want))) => S_sAreWants x.1 x.2⟩
theorem ok_sAreWants : Ok gG 74 E_sAreWants := mk Tryz.func74 (by kernel_rfl) [((72, 0), E_sFindPath), ((79, 0), E_sl1In), ((116, 0), E_sArePaths)] [] n0 [(107, wantR)] { lv := [(2, ⟨[0, 1, 5], [], [], pV (rCo (rX .shr 4 pathR) (rCo (rX .shr 2 wantR) (rOne rI))), []⟩)] } ⟨ok_sFindPath, ok_sl1In, ok_sArePaths, trivial⟩ trivial (fun x => by kernel_rfl)
noncomputable def E_sIsPrio : Entry := ⟨aV (rCo (rX .shr 4 pathR) (rOne (rAg prioR))), qV rB, fun (x : ((List Path) × Prio)) => S_sIsPrio x.1 x.2⟩
theorem ok_sIsPrio : Ok gG 75 E_sIsPrio := mk Tryz.func75 (by kernel_rfl) [((116, 0), E_sArePaths), ((72, 0), E_sFindPath), ((79, 0), E_sl1In)] [] n0 [(63, pathR)] {} ⟨ok_sArePaths, ok_sFindPath, ok_sl1In, trivial⟩ trivial (fun x => by kernel_rfl)
noncomputable def E_sAreLamps : Entry := ⟨aV (rCo (rX .shr 4 pathR) (rOne (rX .shr 3 lampR))), qV rB, fun (x : ((List Path) × (List Lamp))) => S_sAreLamps x.1 x.2⟩
theorem ok_sAreLamps : Ok gG 76 E_sAreLamps := mk Tryz.func76 (by kernel_rfl) [((72, 0), E_sFindPath), ((79, 0), E_sl1In), ((116, 0), E_sArePaths)] [] n0 [(101, lampR)] { lv := [(2, ⟨[0, 1, 5], [], [], pV (rCo (rX .shr 4 pathR) (rCo (rX .shr 3 lampR) (rOne rI))), []⟩), (7, ⟨[0, 1, 5, 6], [], [], pV (rCo (rX .shr 4 pathR) (rCo (rX .shr 3 lampR) (rCo rI (rOne rI)))), []⟩)] } ⟨ok_sFindPath, ok_sl1In, ok_sArePaths, trivial⟩ trivial (fun x => by kernel_rfl)
noncomputable def E_sIsSafeLights : Entry := ⟨aV (rCo (rX .shr 4 pathR) (rOne (rX .shr 1 iR))), qV rB, fun (x : ((List Path) × (List Int))) => S_sIsSafeLights x.1 x.2⟩
theorem ok_sIsSafeLights : Ok gG 118 E_sIsSafeLights := mk Tryz.func118 (by kernel_rfl) [((116, 0), E_sArePaths), ((79, 0), E_sl1In), ((51, 0), E_sConflict)] [] n0 [(3, iR), (63, pathR)] { lv := [(4, ⟨[0, 1, 5], [], [], pV (rCo (rX .shr 4 pathR) (rCo (rX .shr 1 iR) (rOne rI))), []⟩), (9, ⟨[0, 1, 5, 6], [], [], pV (rCo (rX .shr 4 pathR) (rCo (rX .shr 1 iR) (rCo rI (rOne rI)))), []⟩)] } ⟨ok_sArePaths, ok_sl1In, ok_sConflict, trivial⟩ trivial (fun x => by kernel_rfl)
noncomputable def E_sFirstUnsafe : Entry := ⟨aV (rCo (rX .shr 4 pathR) (rOne (rX .shr 3 (noteR .shr)))), qV rI, fun (x : ((List Path) × (List Note))) => S_sFirstUnsafe x.1 x.2⟩
theorem ok_sFirstUnsafe : Ok gG 78 E_sFirstUnsafe := mk Tryz.func78 (by kernel_rfl) [((77, 0), E_sIsRecord), ((118, 0), E_sIsSafeLights)] [] n0 [(123, (noteR .shr))] { lv := [(2, ⟨[0, 1, 5], [], [], pV (rCo (rX .shr 4 pathR) (rCo (rX .shr 3 (noteR .shr)) (rOne rI))), []⟩)] } ⟨ok_sIsRecord, ok_sIsSafeLights, trivial⟩ trivial (fun x => by kernel_rfl)
noncomputable def E_sIsTown : Entry := ⟨aV (rOne (rAg (townR .shr .shr .shr .shr .shr .shr .shr))), qV rB, fun (x : Town) => S_sIsTown x⟩
theorem ok_sIsTown : Ok gG 48 E_sIsTown := mk Tryz.func48 (by kernel_rfl) [((73, 0), E_sIsControl), ((74, 0), E_sAreWants), ((75, 0), E_sIsPrio), ((76, 0), E_sAreLamps), ((77, 0), E_sIsRecord), ((78, 0), E_sFirstUnsafe), ((79, 0), E_sl1In)] [] n0 [(123, (noteR .shr))] {} ⟨ok_sIsControl, ok_sAreWants, ok_sIsPrio, ok_sAreLamps, ok_sIsRecord, ok_sFirstUnsafe, ok_sl1In, trivial⟩ trivial (fun x => by kernel_rfl)
noncomputable def E_sNewTown : Entry := ⟨aV (rOne (rX .shr 4 pathR)), qV (rTu (rCo (rAg (townR .own .own .own .own .own .own .own)) (rOne rB))), fun (x : (List Path)) => S_sNewTown x⟩
theorem ok_sNewTown : Ok gG 89 E_sNewTown := mk Tryz.func89 (by kernel_rfl) [((97, 0), E_sCoverOf), ((105, 0), E_sl33Copy), ((122, 0), E_sLightsOf), ((121, 0), E_sAddEntry), ((48, 0), E_sIsTown)] [] n0 [(24, (rOne (rX .shr 1 iR)))] { tk := [(1, 2), (3, 1), (4, 1), (4, 5), (4, 8), (5, 5), (5, 6), (5, 9), (7, 1), (8, 1)], mo := [(8, 0)] } ⟨ok_sCoverOf, ok_sl33Copy, ok_sLightsOf, ok_sAddEntry, ok_sIsTown, trivial⟩ trivial (fun x => by kernel_rfl)
noncomputable def E_sl19Lamps : Entry := ⟨aVG (rCo (rGp 0) (rCo (rX .shr 4 pathR) (rOne rI))) (gOne (l1CurR .shr)), qVG (rX .own 3 lampR) (gOne (l1CurR .shr)), fun (x : ((Unit × (List Path) × Int) × L1Cur)) => S_sl19Lamps x.1.2.1 x.1.2.2 x.2⟩
theorem ok_sl19Lamps : Ok gG 59 E_sl19Lamps := mk Tryz.func59 (by kernel_rfl) [((34, 0), E_sl1Once)] [] (memN [34]) [(63, pathR)] { tk := [(1, 1), (9, 0), (9, 12), (9, 13), (10, 0), (10, 1)], lv := [(3, ⟨[0, 1, 2, 7, 8], [], [], pVG (rCo (rGp 0) (rCo (rX .shr 4 pathR) (rCo rI (rCo (rX .own 3 lampR) (rOne rI))))) (gOne (l1CurR .shr)), []⟩), (6, ⟨[0, 1, 2, 7, 8, 9], [], [], pVG (rCo (rGp 0) (rCo (rX .shr 4 pathR) (rCo rI (rCo (rX .own 3 lampR) (rCo rI (rOne rI)))))) (gOne (l1CurR .shr)), []⟩)] } ⟨ok_sl1Once, trivial⟩ trivial (fun x => by kernel_rfl)
noncomputable def E_sl33Draw : Entry := ⟨aVG (rOne (rGp 0)) (gOne (l1CurR .shr)), qVG (rAg (townR .own .own .own .own .own .own .own)) (gOne (l1CurR .shr)), fun (x : (Unit × L1Cur)) => S_sl33Draw x.2⟩
theorem ok_sl33Draw : Ok gG 55 E_sl33Draw := mk Tryz.func55 (by kernel_rfl) [((64, 0), E_sl5Draw), ((89, 0), E_sNewTown), ((59, 0), E_sl19Lamps)] [] (memN [59, 64]) [] { tk := [(1, 3), (1, 4), (1, 7), (2, 5), (3, 1)], mo := [(3, 0)] } ⟨ok_sl5Draw, ok_sNewTown, ok_sl19Lamps, trivial⟩ trivial (fun x => by kernel_rfl)
noncomputable def E_sAddWant : Entry := ⟨aV (rCo (rX .shr 4 pathR) (rCo (rX .shr 2 wantR) (rOne rI))), qV (rTu (rCo (rX .own 2 wantR) (rOne rB))), fun (x : ((List Path) × (List Want) × Int)) => S_sAddWant x.1 x.2.1 x.2.2⟩
theorem ok_sAddWant : Ok gG 106 E_sAddWant := mk Tryz.func106 (by kernel_rfl) [((74, 0), E_sAreWants)] [] n0 [(107, wantR)] { tk := [(4, 8), (4, 13), (6, 3), (7, 0), (7, 1)], lv := [(2, ⟨[0, 1, 2, 8], [], [], pV (rCo (rX .shr 4 pathR) (rCo (rX .shr 2 wantR) (rCo rI (rOne rI)))), []⟩)] } ⟨ok_sAreWants, trivial⟩ trivial (fun x => by kernel_rfl)
noncomputable def E_sl34Done : Entry := ⟨aV (rCo (rAg (townR .shr .shr .shr .shr .shr .shr .shr)) (rCo (rAg (townR .own .own .own .own .own .own .own)) (rOne rB))), qV (rTu (rCo (rAg (townR .own .own .own .own .own .own .own)) (rOne rB))), fun (x : (Town × Town × Bool)) => S_sl34Done x.1 x.2.1 x.2.2⟩
theorem ok_sl34Done : Ok gG 107 E_sl34Done := mk Tryz.func107 (by kernel_rfl) [((48, 0), E_sIsTown), ((105, 0), E_sl33Copy)] [] n0 [] { tk := [(0, 1), (2, 2), (3, 1)], mo := [(3, 0)] } ⟨ok_sIsTown, ok_sl33Copy, trivial⟩ trivial (fun x => by kernel_rfl)
noncomputable def E_sStepCall : Entry := ⟨aV (rCo (rAg (townR .shr .shr .shr .shr .shr .shr .shr)) (rOne rI)), qV (rTu (rCo (rAg (townR .own .own .own .own .own .own .own)) (rOne rB))), fun (x : (Town × Int)) => S_sStepCall x.1 x.2⟩
theorem ok_sStepCall : Ok gG 68 E_sStepCall := mk Tryz.func68 (by kernel_rfl) [((105, 0), E_sl33Copy), ((106, 0), E_sAddWant), ((107, 0), E_sl34Done)] [] n0 [] { tk := [(1, 3), (2, 6), (2, 7), (2, 9), (3, 0), (3, 2), (4, 3), (4, 4), (4, 6)], mo := [(4, 1)] } ⟨ok_sl33Copy, ok_sAddWant, ok_sl34Done, trivial⟩ trivial (fun x => by kernel_rfl)
noncomputable def E_sAskPrio : Entry := ⟨aV (rCo (rX .shr 4 pathR) (rCo (rAg prioR) (rOne rI))), qV (rTu (rCo (rAg prioR) (rOne rB))), fun (x : ((List Path) × Prio × Int)) => S_sAskPrio x.1 x.2.1 x.2.2⟩
theorem ok_sAskPrio : Ok gG 108 E_sAskPrio := mk Tryz.func108 (by kernel_rfl) [((75, 0), E_sIsPrio)] [] n0 [] {} ⟨ok_sIsPrio, trivial⟩ trivial (fun x => by kernel_rfl)
noncomputable def E_sStepBus : Entry := ⟨aV (rCo (rAg (townR .shr .shr .shr .shr .shr .shr .shr)) (rOne rI)), qV (rTu (rCo (rAg (townR .own .own .own .own .own .own .own)) (rOne rB))), fun (x : (Town × Int)) => S_sStepBus x.1 x.2⟩
theorem ok_sStepBus : Ok gG 69 E_sStepBus := mk Tryz.func69 (by kernel_rfl) [((105, 0), E_sl33Copy), ((108, 0), E_sAskPrio), ((107, 0), E_sl34Done)] [] n0 [] { tk := [(1, 3), (4, 3), (4, 4), (4, 6)], mo := [(4, 1)] } ⟨ok_sl33Copy, ok_sAskPrio, ok_sl34Done, trivial⟩ trivial (fun x => by kernel_rfl)
noncomputable def E_sModeFor : Entry := ⟨aV (rCo (rX .shr 4 pathR) (rCo (rX .shr 3 lampR) (rOne rB))), qV rI, fun (x : ((List Path) × (List Lamp) × Bool)) => S_sModeFor x.1 x.2.1 x.2.2⟩
theorem ok_sModeFor : Ok gG 140 E_sModeFor := mk Tryz.func140 (by kernel_rfl) [((76, 0), E_sAreLamps)] [] n0 [(101, lampR)] { lv := [(4, ⟨[0, 1, 7], [], [], pV (rCo (rX .shr 4 pathR) (rCo (rX .shr 3 lampR) (rOne rI))), []⟩)] } ⟨ok_sAreLamps, trivial⟩ trivial (fun x => by kernel_rfl)
noncomputable def E_sModeOf : Entry := ⟨aV (rOne (rAg (townR .shr .shr .shr .shr .shr .shr .shr))), qV rI, fun (x : Town) => S_sModeOf x⟩
theorem ok_sModeOf : Ok gG 109 E_sModeOf := mk Tryz.func109 (by kernel_rfl) [((140, 0), E_sModeFor)] [] n0 [] {} ⟨ok_sModeFor, trivial⟩ trivial (fun x => by kernel_rfl)
noncomputable def E_sCanCut : Entry := ⟨aV (rCo (rX .shr 4 pathR) (rOne (rAg (controlR .shr .shr)))), qV rB, fun (x : ((List Path) × Control)) => S_sCanCut x.1 x.2⟩
theorem ok_sCanCut : Ok gG 152 E_sCanCut := mk Tryz.func152 (by kernel_rfl) [((98, 0), E_sLeastGreen), ((73, 0), E_sIsControl)] [] n0 [] {} ⟨ok_sLeastGreen, ok_sIsControl, trivial⟩ trivial (fun x => by kernel_rfl)
noncomputable def E_sCutFor : Entry := ⟨aV (rCo (rX .shr 4 pathR) (rCo (rAg (controlR .shr .shr)) (rOne rI))), qV (rTu (rCo (rAg (controlR .own .own)) (rOne rB))), fun (x : ((List Path) × Control × Int)) => S_sCutFor x.1 x.2.1 x.2.2⟩
theorem ok_sCutFor : Ok gG 141 E_sCutFor := mk Tryz.func141 (by kernel_rfl) [((124, 0), E_sl14Copy), ((72, 0), E_sFindPath), ((152, 0), E_sCanCut), ((129, 0), E_sl6Has), ((115, 0), E_sClearBetween)] [] n0 [(63, pathR)] { tk := [(1, 3), (4, 1), (7, 2), (7, 3), (8, 3), (10, 1)], mo := [(4, 0), (10, 0)] } ⟨ok_sl14Copy, ok_sFindPath, ok_sCanCut, ok_sl6Has, ok_sClearBetween, trivial⟩ trivial (fun x => by kernel_rfl)
noncomputable def E_sMin : Entry := ⟨aV (rCo rI (rOne rI)), qV rI, fun (x : (Int × Int)) => S_sMin x.1 x.2⟩
theorem ok_sMin : Ok gG 127 E_sMin := mk Tryz.func127 (by kernel_rfl) [] [] n0 [] {} trivial trivial (fun x => by kernel_rfl)
noncomputable def E_sTickControl : Entry := ⟨aV (rCo (rX .shr 4 pathR) (rOne (rAg (controlR .shr .shr)))), qV (rAg (controlR .own .own)), fun (x : ((List Path) × Control)) => S_sTickControl x.1 x.2⟩
theorem ok_sTickControl : Ok gG 92 E_sTickControl := mk Tryz.func92 (by kernel_rfl) [((124, 0), E_sl14Copy), ((73, 0), E_sIsControl), ((127, 0), E_sMin)] [] n0 [] { tk := [(1, 3), (3, 1), (6, 1), (9, 2), (9, 3), (10, 1)], mo := [(3, 0), (6, 0), (9, 1), (10, 0)] } ⟨ok_sl14Copy, ok_sIsControl, ok_sMin, trivial⟩ trivial (fun x => by kernel_rfl)
noncomputable def E_sStepSiren : Entry := ⟨aV (rCo (rX .shr 4 pathR) (rCo (rAg (controlR .shr .shr)) (rOne rI))), qV (rAg (controlR .own .own)), fun (x : ((List Path) × Control × Int)) => S_sStepSiren x.1 x.2.1 x.2.2⟩
theorem ok_sStepSiren : Ok gG 110 E_sStepSiren := mk Tryz.func110 (by kernel_rfl) [((141, 0), E_sCutFor), ((92, 0), E_sTickControl)] [] n0 [] { tk := [(1, 4), (1, 5), (1, 8), (3, 1), (4, 3)], mo := [(3, 0)] } ⟨ok_sCutFor, ok_sTickControl, trivial⟩ trivial (fun x => by kernel_rfl)
noncomputable def E_sl16Wants : Entry := ⟨aV (rCo (rX .shr 4 pathR) (rCo (rAg (controlR .shr .shr)) (rOne (rX .shr 2 wantR)))), qV (rX .own 2 wantR), fun (x : ((List Path) × Control × (List Want))) => S_sl16Wants x.1 x.2.1 x.2.2⟩
theorem ok_sl16Wants : Ok gG 111 E_sl16Wants := mk Tryz.func111 (by kernel_rfl) [((122, 0), E_sLightsOf), ((72, 0), E_sFindPath), ((127, 0), E_sMin)] [] n0 [(3, iR), (107, wantR)] { tk := [(1, 1), (2, 3), (7, 0), (7, 15), (7, 16), (8, 0), (8, 1)], lv := [(4, ⟨[0, 2, 7, 8, 9], [], [], pV (rCo (rX .shr 4 pathR) (rCo (rX .shr 2 wantR) (rCo (rX .own 2 wantR) (rCo (rX .own 1 iR) (rOne rI))))), []⟩)] } ⟨ok_sLightsOf, ok_sFindPath, ok_sMin, trivial⟩ trivial (fun x => by kernel_rfl)
noncomputable def E_sl33All : Entry := ⟨aV (rCo (rAg (townR .shr .shr .shr .shr .shr .shr .shr)) (rOne rI)), qV (rX .own 1 iR), fun (x : (Town × Int)) => S_sl33All x.1 x.2⟩
theorem ok_sl33All : Ok gG 153 E_sl33All := mk Tryz.func153 (by kernel_rfl) [] [] n0 [] { tk := [(1, 1), (5, 0), (5, 3), (5, 4), (6, 0), (6, 1)], lv := [(3, ⟨[1, 5, 6], [(2, 2, false)], [(2, 13, false, false)], pVO (rCo rI (rCo (rX .own 1 iR) (rOne rI))) (oRow1 (townR .shr .shr .shr .shr .shr .shr .shr)), []⟩)] } trivial trivial (fun x => by kernel_rfl)
noncomputable def E_sLightsNow : Entry := ⟨aV (rOne (rAg (townR .shr .shr .shr .shr .shr .shr .shr))), qV (rX .own 1 iR), fun (x : Town) => S_sLightsNow x⟩
theorem ok_sLightsNow : Ok gG 142 E_sLightsNow := mk Tryz.func142 (by kernel_rfl) [((109, 0), E_sModeOf), ((122, 0), E_sLightsOf), ((153, 0), E_sl33All)] [] n0 [] { tk := [(2, 5), (3, 2)] } ⟨ok_sModeOf, ok_sLightsOf, ok_sl33All, trivial⟩ trivial (fun x => by kernel_rfl)
noncomputable def E_sEqualInts : Entry := ⟨aV (rCo (rX .shr 1 iR) (rOne (rX .shr 1 iR))), qV rB, fun (x : ((List Int) × (List Int))) => S_sEqualInts x.1 x.2⟩
theorem ok_sEqualInts : Ok gG 126 E_sEqualInts := mk Tryz.func126 (by kernel_rfl) [] [] n0 [(3, iR)] { lv := [(4, ⟨[0, 1, 5], [], [], pV (rCo (rX .shr 1 iR) (rCo (rX .shr 1 iR) (rOne rI))), []⟩)] } trivial trivial (fun x => by kernel_rfl)
noncomputable def E_sNoteLights : Entry := ⟨aV (rCo (rX .shr 3 (noteR .shr)) (rCo rI (rOne (rX .shr 1 iR)))), qV (rTu (rCo (rX .own 3 (noteR .own)) (rOne rB))), fun (x : ((List Note) × Int × (List Int))) => S_sNoteLights x.1 x.2.1 x.2.2⟩
theorem ok_sNoteLights : Ok gG 128 E_sNoteLights := mk Tryz.func128 (by kernel_rfl) [((126, 0), E_sEqualInts), ((121, 0), E_sAddEntry), ((139, 0), E_sl27Copy), ((77, 0), E_sIsRecord), ((79, 0), E_sl1In)] [] n0 [(123, (noteR .shr))] { tk := [(2, 4), (2, 6), (3, 19)] } ⟨ok_sEqualInts, ok_sAddEntry, ok_sl27Copy, ok_sIsRecord, ok_sl1In, trivial⟩ trivial (fun x => by kernel_rfl)
noncomputable def E_sl34Note : Entry := ⟨aV (rOne (rAg (townR .own .own .own .own .own .own .own))), qV (rAg (townR .own .own .own .own .own .own .own)), fun (x : Town) => S_sl34Note x⟩
theorem ok_sl34Note : Ok gG 112 E_sl34Note := mk Tryz.func112 (by kernel_rfl) [((142, 0), E_sLightsNow), ((139, 0), E_sl27Copy), ((128, 0), E_sNoteLights), ((121, 0), E_sAddEntry), ((127, 0), E_sMin)] [] n0 [(123, (noteR .shr))] { tk := [(0, 0), (2, 2), (4, 6), (5, 5), (5, 6), (5, 8), (7, 2), (7, 4), (7, 5), (7, 7), (9, 0), (9, 2), (10, 1)], mo := [(10, 0)] } ⟨ok_sLightsNow, ok_sl27Copy, ok_sNoteLights, ok_sAddEntry, ok_sMin, trivial⟩ trivial (fun x => by kernel_rfl)
noncomputable def E_sStepHelp : Entry := ⟨aV (rCo (rAg (townR .shr .shr .shr .shr .shr .shr .shr)) (rOne rI)), qV (rTu (rCo (rAg (townR .own .own .own .own .own .own .own)) (rOne rB))), fun (x : (Town × Int)) => S_sStepHelp x.1 x.2⟩
theorem ok_sStepHelp : Ok gG 70 E_sStepHelp := mk Tryz.func70 (by kernel_rfl) [((72, 0), E_sFindPath), ((48, 0), E_sIsTown), ((105, 0), E_sl33Copy), ((109, 0), E_sModeOf), ((110, 0), E_sStepSiren), ((111, 0), E_sl16Wants), ((112, 0), E_sl34Note), ((107, 0), E_sl34Done)] [] n0 [(63, pathR)] { tk := [(3, 2), (4, 3), (7, 7), (8, 8), (12, 2), (12, 3), (12, 4), (12, 6)], mo := [(12, 1)], ao := [12] } ⟨ok_sFindPath, ok_sIsTown, ok_sl33Copy, ok_sModeOf, ok_sStepSiren, ok_sl16Wants, ok_sl34Note, ok_sl34Done, trivial⟩ trivial (fun x => by kernel_rfl)
noncomputable def E_sCanEnd : Entry := ⟨aV (rCo (rX .shr 4 pathR) (rOne (rAg (controlR .shr .shr)))), qV rB, fun (x : ((List Path) × Control)) => S_sCanEnd x.1 x.2⟩
theorem ok_sCanEnd : Ok gG 125 E_sCanEnd := mk Tryz.func125 (by kernel_rfl) [((73, 0), E_sIsControl), ((98, 0), E_sLeastGreen)] [] n0 [] {} ⟨ok_sIsControl, ok_sLeastGreen, trivial⟩ trivial (fun x => by kernel_rfl)
noncomputable def E_sLongestWant : Entry := ⟨aV (rCo (rX .shr 2 wantR) (rOne (rX .shr 1 iR))), qV rI, fun (x : ((List Want) × (List Int))) => S_sLongestWant x.1 x.2⟩
theorem ok_sLongestWant : Ok gG 159 E_sLongestWant := mk Tryz.func159 (by kernel_rfl) [((129, 0), E_sl6Has)] [] n0 [(107, wantR)] { lv := [(3, ⟨[0, 1, 5, 6], [], [], pV (rCo (rX .shr 2 wantR) (rCo (rX .shr 1 iR) (rCo rI (rOne rI)))), []⟩)] } ⟨ok_sl6Has, trivial⟩ trivial (fun x => by kernel_rfl)
noncomputable def E_sNextStage : Entry := ⟨aV (rCo (rX .shr 4 pathR) (rCo (rAg (controlR .shr .shr)) (rOne (rX .shr 2 wantR)))), qV (rX .own 1 iR), fun (x : ((List Path) × Control × (List Want))) => S_sNextStage x.1 x.2.1 x.2.2⟩
theorem ok_sNextStage : Ok gG 158 E_sNextStage := mk Tryz.func158 (by kernel_rfl) [((159, 0), E_sLongestWant), ((73, 0), E_sIsControl), ((74, 0), E_sAreWants), ((130, 0), E_sAddToStage)] [] n0 [] { tk := [(3, 1), (4, 4)] } ⟨ok_sLongestWant, ok_sIsControl, ok_sAreWants, ok_sAddToStage, trivial⟩ trivial (fun x => by kernel_rfl)
noncomputable def E_sMustChange : Entry := ⟨aV (rCo (rX .shr 4 pathR) (rCo (rAg (controlR .shr .shr)) (rOne (rX .shr 2 wantR)))), qV rB, fun (x : ((List Path) × Control × (List Want))) => S_sMustChange x.1 x.2.1 x.2.2⟩
theorem ok_sMustChange : Ok gG 157 E_sMustChange := mk Tryz.func157 (by kernel_rfl) [((129, 0), E_sl6Has), ((125, 0), E_sCanEnd), ((158, 0), E_sNextStage)] [] n0 [(107, wantR)] { lv := [(3, ⟨[0, 2, 7, 8], [(4, 4, false)], [(4, 4, false, false)], pVO (rCo (rX .shr 4 pathR) (rCo (rX .shr 2 wantR) (rCo rB (rOne rI)))) (oRow1 (controlR .shr .shr)), []⟩)] } ⟨ok_sl6Has, ok_sCanEnd, ok_sNextStage, trivial⟩ trivial (fun x => by kernel_rfl)
noncomputable def E_sAskStage : Entry := ⟨aV (rCo (rX .shr 4 pathR) (rCo (rAg (controlR .shr .shr)) (rOne (rX .shr 1 iR)))), qV (rTu (rCo (rAg (controlR .own .own)) (rOne rB))), fun (x : ((List Path) × Control × (List Int))) => S_sAskStage x.1 x.2.1 x.2.2⟩
theorem ok_sAskStage : Ok gG 91 E_sAskStage := mk Tryz.func91 (by kernel_rfl) [((124, 0), E_sl14Copy), ((125, 0), E_sCanEnd), ((114, 0), E_sIsTogether), ((126, 0), E_sEqualInts), ((115, 0), E_sClearBetween)] [] n0 [] { tk := [(1, 3), (3, 1), (6, 3), (6, 4), (7, 4), (9, 1)], mo := [(3, 0), (9, 0)] } ⟨ok_sl14Copy, ok_sCanEnd, ok_sIsTogether, ok_sEqualInts, ok_sClearBetween, trivial⟩ trivial (fun x => by kernel_rfl)
noncomputable def E_sStepAsk : Entry := ⟨aV (rCo (rX .shr 4 pathR) (rCo (rAg (controlR .shr .shr)) (rOne (rX .shr 2 wantR)))), qV (rTu (rCo (rAg (controlR .own .own)) (rOne (rX .own 2 wantR)))), fun (x : ((List Path) × Control × (List Want))) => S_sStepAsk x.1 x.2.1 x.2.2⟩
theorem ok_sStepAsk : Ok gG 154 E_sStepAsk := mk Tryz.func154 (by kernel_rfl) [((73, 0), E_sIsControl), ((74, 0), E_sAreWants), ((124, 0), E_sl14Copy), ((92, 0), E_sTickControl), ((157, 0), E_sMustChange), ((158, 0), E_sNextStage), ((91, 0), E_sAskStage), ((122, 0), E_sLightsOf), ((72, 0), E_sFindPath), ((127, 0), E_sMin)] [] n0 [(3, iR), (107, wantR)] { tk := [(1, 1), (3, 2), (3, 5), (3, 6), (4, 4), (6, 7), (6, 8), (6, 10), (7, 3), (12, 0), (12, 15), (12, 16), (13, 1), (13, 2), (13, 3)], mo := [(13, 0)], lv := [(9, ⟨[0, 2, 8, 10, 11], [(6, 6, false), (9, 9, false)], [(6, 4, false, false), (9, 4, false, false)], pVO (rCo (rX .shr 4 pathR) (rCo (rX .shr 2 wantR) (rCo (rX .own 2 wantR) (rCo (rX .own 1 iR) (rOne rI))))) (oRow (controlR .own .own) (oRow1 (controlR .own .own))), []⟩)] } ⟨ok_sIsControl, ok_sAreWants, ok_sl14Copy, ok_sTickControl, ok_sMustChange, ok_sNextStage, ok_sAskStage, ok_sLightsOf, ok_sFindPath, ok_sMin, trivial⟩ trivial (fun x => by kernel_rfl)
noncomputable def E_sPrioWish : Entry := ⟨aV (rCo (rX .shr 4 pathR) (rCo (rAg (controlR .shr .shr)) (rOne (rAg prioR)))), qV rS, fun (x : ((List Path) × Control × Prio)) => S_sPrioWish x.1 x.2.1 x.2.2⟩
theorem ok_sPrioWish : Ok gG 155 E_sPrioWish := mk Tryz.func155 (by kernel_rfl) [((73, 0), E_sIsControl), ((75, 0), E_sIsPrio), ((129, 0), E_sl6Has), ((125, 0), E_sCanEnd)] [] n0 [] {} ⟨ok_sIsControl, ok_sIsPrio, ok_sl6Has, ok_sCanEnd, trivial⟩ trivial (fun x => by kernel_rfl)
noncomputable def E_sStepPrio : Entry := ⟨aV (rCo (rX .shr 4 pathR) (rCo (rAg (controlR .shr .shr)) (rCo (rX .shr 2 wantR) (rOne (rAg prioR))))), qV (rTu (rCo (rAg (controlR .own .own)) (rCo (rX .own 2 wantR) (rOne (rAg prioR))))), fun (x : ((List Path) × Control × (List Want) × Prio)) => S_sStepPrio x.1 x.2.1 x.2.2.1 x.2.2.2⟩
theorem ok_sStepPrio : Ok gG 143 E_sStepPrio := mk Tryz.func143 (by kernel_rfl) [((73, 0), E_sIsControl), ((74, 0), E_sAreWants), ((75, 0), E_sIsPrio), ((124, 0), E_sl14Copy), ((154, 0), E_sStepAsk), ((155, 0), E_sPrioWish), ((92, 0), E_sTickControl), ((111, 0), E_sl16Wants), ((130, 0), E_sAddToStage), ((91, 0), E_sAskStage)] [] n0 [] { tk := [(2, 6), (2, 7), (3, 4), (3, 5), (3, 6), (3, 8), (3, 9), (6, 3), (7, 4), (9, 8), (9, 9), (9, 11), (10, 4), (12, 1), (12, 9), (13, 1), (13, 3), (13, 4)], mo := [(13, 0)], hb := [((12, 0), 1), ((12, 8), 6)] } ⟨ok_sIsControl, ok_sAreWants, ok_sIsPrio, ok_sl14Copy, ok_sStepAsk, ok_sPrioWish, ok_sTickControl, ok_sl16Wants, ok_sAddToStage, ok_sAskStage, trivial⟩ trivial (fun x => by kernel_rfl)
noncomputable def E_sStepSecond : Entry := ⟨aV (rOne (rAg (townR .shr .shr .shr .shr .shr .shr .shr))), qV (rTu (rCo (rAg (townR .own .own .own .own .own .own .own)) (rOne rB))), fun (x : Town) => S_sStepSecond x⟩
theorem ok_sStepSecond : Ok gG 113 E_sStepSecond := mk Tryz.func113 (by kernel_rfl) [((48, 0), E_sIsTown), ((105, 0), E_sl33Copy), ((109, 0), E_sModeOf), ((143, 0), E_sStepPrio), ((112, 0), E_sl34Note), ((107, 0), E_sl34Done)] [] n0 [] { tk := [(2, 2), (3, 3), (6, 9), (6, 10), (6, 11), (6, 15), (6, 16), (7, 2), (8, 0), (8, 2), (10, 2), (10, 3), (10, 4), (10, 6)], mo := [(7, 0), (10, 1)], ao := [10] } ⟨ok_sIsTown, ok_sl33Copy, ok_sModeOf, ok_sStepPrio, ok_sl34Note, ok_sl34Done, trivial⟩ trivial (fun x => by kernel_rfl)
noncomputable def E_sStepSeconds : Entry := ⟨aV (rCo (rAg (townR .shr .shr .shr .shr .shr .shr .shr)) (rOne rI)), qV (rTu (rCo (rAg (townR .own .own .own .own .own .own .own)) (rOne rB))), fun (x : (Town × Int)) => S_sStepSeconds x.1 x.2⟩
theorem ok_sStepSeconds : Ok gG 71 E_sStepSeconds := mk Tryz.func71 (by kernel_rfl) [((105, 0), E_sl33Copy), ((79, 0), E_sl1In), ((113, 0), E_sStepSecond)] [] n0 [] { tk := [(1, 3), (3, 1), (7, 2), (7, 3), (7, 6), (9, 2), (10, 1), (11, 1)], mo := [(3, 0), (10, 0), (11, 0)], lv := [(5, ⟨[1, 7], [(2, 2, false), (4, 4, false), (6, 6, false)], [(2, 13, false, false), (4, 13, false, false), (6, 13, false, false)], pVO (rCo rI (rOne rI)) (oRow (townR .shr .shr .shr .shr .shr .shr .shr) (oRow (townR .own .own .own .own .own .own .own) (oRow1 (townR .own .own .own .own .own .own .own)))), []⟩)] } ⟨ok_sl33Copy, ok_sl1In, ok_sStepSecond, trivial⟩ trivial (fun x => by kernel_rfl)
noncomputable def E_sl34Draw : Entry := ⟨aVG (rOne (rGp 0)) (gOne (l1CurR .shr)), qVG (rAg (townR .own .own .own .own .own .own .own)) (gOne (l1CurR .shr)), fun (x : (Unit × L1Cur)) => S_sl34Draw x.2⟩
theorem ok_sl34Draw : Ok gG 46 E_sl34Draw := mk Tryz.func46 (by kernel_rfl) [((55, 0), E_sl33Draw), ((18, 0), E_sl1Below), ((68, 0), E_sStepCall), ((69, 0), E_sStepBus), ((70, 0), E_sStepHelp), ((71, 0), E_sStepSeconds)] [] (memN [18, 55]) [] { tk := [(1, 3), (6, 5), (6, 6), (6, 8), (9, 5), (9, 6), (9, 8), (11, 5), (11, 6), (11, 8), (13, 5), (13, 6), (13, 8), (14, 1)], mo := [(14, 0)], lv := [(3, ⟨[0, 4], [(2, 2, false), (3, 3, false)], [(2, 13, false, false), (3, 13, false, false)], pVOG (rCo (rGp 0) (rOne rI)) (oRow (townR .own .own .own .own .own .own .own) (oRow1 (townR .own .own .own .own .own .own .own))) (gOne (l1CurR .shr)), []⟩)] } ⟨ok_sl33Draw, ok_sl1Below, ok_sStepCall, ok_sStepBus, ok_sStepHelp, ok_sStepSeconds, trivial⟩ trivial (fun x => by kernel_rfl)
noncomputable def E_sDrawReportOf : Entry := ⟨aV (rOne (rX .shr 1 yR)), qV (rTu (rCo (rAg (townR .own .own .own .own .own .own .own)) (rCo rI (rOne rI)))), fun (x : (List Int)) => S_sDrawReportOf x⟩
theorem ok_sDrawReportOf : Ok gG 32 E_sDrawReportOf := mk Tryz.func32 (by kernel_rfl) [((17, 0), E_sl1New), ((46, 0), E_sl34Draw), ((18, 0), E_sl1Below), ((43, 0), E_sl1Int)] [] (memN [17, 18, 43, 46]) [] { tk := [(2, 3)], hb := [((4, 0), 1), ((4, 15), 6)] } ⟨ok_sl1New, ok_sl34Draw, ok_sl1Below, ok_sl1Int, trivial⟩ trivial (fun x => by kernel_rfl)
noncomputable def E_sl38Index : Entry := ⟨aV (rCo (rAg (townR .shr .shr .shr .shr .shr .shr .shr)) (rOne rI)), qV rI, fun (x : (Town × Int)) => S_sl38Index x.1 x.2⟩
theorem ok_sl38Index : Ok gG 47 E_sl38Index := mk Tryz.func47 (by kernel_rfl) [((72, 0), E_sFindPath)] [] n0 [] {} ⟨ok_sFindPath, trivial⟩ trivial (fun x => by kernel_rfl)
noncomputable def E_sl28At : Entry := ⟨aV (rCo (rX .shr 3 (noteR .shr)) (rOne rI)), qV rI, fun (x : ((List Note) × Int)) => S_sl28At x.1 x.2⟩
theorem ok_sl28At : Ok gG 80 E_sl28At := mk Tryz.func80 (by kernel_rfl) [((77, 0), E_sIsRecord)] [] n0 [(123, (noteR .shr))] { lv := [(3, ⟨[0, 1, 5, 6], [], [], pV (rCo (rX .shr 3 (noteR .shr)) (rCo rI (rCo rI (rOne rI)))), []⟩)] } ⟨ok_sIsRecord, trivial⟩ trivial (fun x => by kernel_rfl)
noncomputable def E_sShownAt : Entry := ⟨aV (rCo (rX .shr 3 (noteR .shr)) (rOne rI)), qV (rTu (rCo (rX .own 1 iR) (rOne rB))), fun (x : ((List Note) × Int)) => S_sShownAt x.1 x.2⟩
theorem ok_sShownAt : Ok gG 49 E_sShownAt := mk Tryz.func49 (by kernel_rfl) [((80, 0), E_sl28At)] [] n0 [(123, (noteR .shr))] { tk := [(3, 1), (4, 7)] } ⟨ok_sl28At, trivial⟩ trivial (fun x => by kernel_rfl)
noncomputable def E_sLightShown : Entry := ⟨aV (rCo (rX .shr 3 (noteR .shr)) (rCo rI (rOne rI))), qV rI, fun (x : ((List Note) × Int × Int)) => S_sLightShown x.1 x.2.1 x.2.2⟩
theorem ok_sLightShown : Ok gG 81 E_sLightShown := mk Tryz.func81 (by kernel_rfl) [((49, 0), E_sShownAt), ((79, 0), E_sl1In)] [] n0 [(3, iR)] { tk := [(1, 3), (1, 4), (1, 6), (4, 0)] } ⟨ok_sShownAt, ok_sl1In, trivial⟩ trivial (fun x => by kernel_rfl)
noncomputable def E_sGreenSince : Entry := ⟨aV (rCo (rX .shr 3 (noteR .shr)) (rCo rI (rOne rI))), qV rI, fun (x : ((List Note) × Int × Int)) => S_sGreenSince x.1 x.2.1 x.2.2⟩
theorem ok_sGreenSince : Ok gG 50 E_sGreenSince := mk Tryz.func50 (by kernel_rfl) [((81, 0), E_sLightShown), ((80, 0), E_sl28At)] [] n0 [(3, iR), (123, (noteR .shr))] { lv := [(4, ⟨[0, 1, 2, 7], [], [], pV (rCo (rX .shr 3 (noteR .shr)) (rCo rI (rCo rI (rOne rI)))), []⟩)] } ⟨ok_sLightShown, ok_sl28At, trivial⟩ trivial (fun x => by kernel_rfl)
noncomputable def E_sReportOf : Entry := ⟨aV (rCo (rAg (townR .shr .shr .shr .shr .shr .shr .shr)) (rCo rI (rOne rI))), qV (rTu (rCo (rAg reportR) (rOne rB))), fun (x : (Town × Int × Int)) => S_sReportOf x.1 x.2.1 x.2.2⟩
theorem ok_sReportOf : Ok gG 33 E_sReportOf := mk Tryz.func33 (by kernel_rfl) [((47, 0), E_sl38Index), ((48, 0), E_sIsTown), ((49, 0), E_sShownAt), ((50, 0), E_sGreenSince), ((51, 0), E_sConflict)] [] n0 [(3, iR), (63, pathR)] { tk := [(4, 4), (4, 5), (4, 7)], lv := [(9, ⟨[8, 9, 12], [(3, 3, false), (6, 6, false), (11, 11, false)], [(3, 13, false, false), (6, 5, false, false), (11, 5, false, false)], pVO (rCo rI (rCo (rX .own 1 iR) (rOne rI))) (oRow (townR .shr .shr .shr .shr .shr .shr .shr) (oRow reportR (oRow1 reportR))), []⟩)] } ⟨ok_sl38Index, ok_sIsTown, ok_sShownAt, ok_sGreenSince, ok_sConflict, trivial⟩ trivial (fun x => by kernel_rfl)
noncomputable def E_sDrawIsReport : Entry := ⟨aV (rOne (rX .shr 1 yR)), qV (rTu (rCo (rAg (townR .own .own .own .own .own .own .own)) (rOne (rAg reportR)))), fun (x : (List Int)) => S_sDrawIsReport x⟩
theorem ok_sDrawIsReport : Ok gG 22 E_sDrawIsReport := mk Tryz.func22 (by kernel_rfl) [((32, 0), E_sDrawReportOf), ((33, 0), E_sReportOf), ((17, 0), E_sl1New), ((34, 0), E_sl1Once), ((18, 0), E_sl1Below)] [] (memN [17, 18, 34]) [] { tk := [(1, 2), (1, 3), (1, 7)], hb := [((6, 0), 1), ((6, 2), 6)] } ⟨ok_sDrawReportOf, ok_sReportOf, ok_sl1New, ok_sl1Once, ok_sl1Below, trivial⟩ trivial (fun x => by kernel_rfl)
noncomputable def E_sDrawFormatReport : Entry := ⟨aV (rOne (rX .shr 1 yR)), qV (rAg reportR), fun (x : (List Int)) => S_sDrawFormatReport x⟩
theorem ok_sDrawFormatReport : Ok gG 10 E_sDrawFormatReport := mk Tryz.func10 (by kernel_rfl) [((22, 0), E_sDrawIsReport)] [] n0 [] { tk := [(1, 2), (1, 3), (1, 7)] } ⟨ok_sDrawIsReport, trivial⟩ trivial (fun x => by kernel_rfl)
noncomputable def E_iFormatReport : Entry := ⟨aV (rOne (rAg reportR)), qV rS, fun (x : Report) => S_iFormatReport x⟩
theorem ok_iFormatReport : Ok gG 9 E_iFormatReport := mk Tryz.func9 (by kernel_rfl) [((21, 0), E_iFormatInt), ((6, 0), E_iFormatLights)] [] n0 [] {} ⟨ok_iFormatInt, ok_iFormatLights, trivial⟩ trivial (fun x => by kernel_rfl)
noncomputable def E_sIsFullStage : Entry := ⟨aV (rCo (rX .shr 4 pathR) (rOne (rX .shr 1 iR))), qV rB, fun (x : ((List Path) × (List Int))) => S_sIsFullStage x.1 x.2⟩
theorem ok_sIsFullStage : Ok gG 149 E_sIsFullStage := mk Tryz.func149 (by kernel_rfl) [((129, 0), E_sl6Has), ((131, 0), E_sl6Put), ((114, 0), E_sIsTogether)] [] n0 [(63, pathR)] { lv := [(2, ⟨[0, 1, 5], [], [], pV (rCo (rX .shr 4 pathR) (rCo (rX .shr 1 iR) (rOne rI))), []⟩)] } ⟨ok_sl6Has, ok_sl6Put, ok_sIsTogether, trivial⟩ trivial (fun x => by kernel_rfl)
noncomputable def E_sl6Search_n (n : Nat) : Entry := ⟨aV (rCo (rX .shr 4 pathR) (rCo rI (rCo (rX .own 1 iR) (rOne (rX .own 1 (rOne (rX .own 1 iR))))))), qV (rX .own 1 (rOne (rX .own 1 iR))), fun (x : ((List Path) × Int × (List Int) × (List (List Int)))) => S_sl6Search_n n x.1 x.2.1 x.2.2.1 x.2.2.2⟩
noncomputable def E_sl6Search : Entry := E_sl6Search_n 64
theorem ok_sl6Search_n : ∀ n, Ok gG 123 (E_sl6Search_n n)
  | 0 => by intro x r hr; cases hr
  | n + 1 => mk Tryz.func123 (by kernel_rfl) [((149, 0), E_sIsFullStage), ((114, 0), E_sIsTogether), ((123, 0), E_sl6Search_n n)] [] n0 [(63, pathR)] { tk := [(3, 0), (3, 2), (3, 3), (3, 4), (3, 5), (3, 6), (4, 0), (4, 1), (5, 9), (5, 10), (7, 3), (7, 4), (7, 5), (7, 6), (8, 3), (8, 4), (8, 5), (8, 6)] } ⟨ok_sIsFullStage, ok_sIsTogether, ok_sl6Search_n n, trivial⟩ trivial (fun x => by kernel_rfl)
theorem ok_sl6Search : Ok gG 123 E_sl6Search := ok_sl6Search_n 64
noncomputable def E_sStagesOf : Entry := ⟨aV (rOne (rX .shr 4 pathR)), qV (rX .own 1 (rOne (rX .own 1 iR))), fun (x : (List Path)) => S_sStagesOf x⟩
theorem ok_sStagesOf : Ok gG 90 E_sStagesOf := mk Tryz.func90 (by kernel_rfl) [((116, 0), E_sArePaths), ((123, 0), E_sl6Search)] [] n0 [] { tk := [(2, 1), (3, 3), (3, 4)] } ⟨ok_sArePaths, ok_sl6Search, trivial⟩ trivial (fun x => by kernel_rfl)
noncomputable def E_sl14Draw : Entry := ⟨aVG (rCo (rGp 0) (rOne (rX .shr 4 pathR))) (gOne (l1CurR .shr)), qVG (rAg (controlR .own .own)) (gOne (l1CurR .shr)), fun (x : ((Unit × (List Path)) × L1Cur)) => S_sl14Draw x.1.2 x.2⟩
theorem ok_sl14Draw : Ok gG 56 E_sl14Draw := mk Tryz.func56 (by kernel_rfl) [((90, 0), E_sStagesOf), ((18, 0), E_sl1Below), ((34, 0), E_sl1Once), ((91, 0), E_sAskStage), ((92, 0), E_sTickControl)] [] (memN [18, 34]) [(24, (rOne (rX .shr 1 iR)))] { tk := [(1, 2), (3, 1), (3, 2), (4, 11), (4, 13), (6, 10), (6, 11), (6, 13), (10, 3), (11, 1)], mo := [(11, 0)], lv := [(8, ⟨[1, 7], [(4, 4, false), (6, 6, false)], [(4, 4, false, false), (6, 4, false, false)], pVOG (rCo (rX .shr 4 pathR) (rOne rI)) (oRow (controlR .own .own) (oRow1 (controlR .own .own))) (gOne (l1CurR .shr)), []⟩)] } ⟨ok_sStagesOf, ok_sl1Below, ok_sl1Once, ok_sAskStage, ok_sTickControl, trivial⟩ trivial (fun x => by kernel_rfl)
noncomputable def E_sl15Wants : Entry := ⟨aVG (rCo (rGp 0) (rOne (rX .shr 4 pathR))) (gOne (l1CurR .shr)), qVG (rX .own 2 wantR) (gOne (l1CurR .shr)), fun (x : ((Unit × (List Path)) × L1Cur)) => S_sl15Wants x.1.2 x.2⟩
theorem ok_sl15Wants : Ok gG 57 E_sl15Wants := mk Tryz.func57 (by kernel_rfl) [((34, 0), E_sl1Once), ((18, 0), E_sl1Below)] [] (memN [18, 34]) [(63, pathR)] { tk := [(1, 1), (6, 0), (6, 10), (6, 11), (7, 0), (7, 1)], lv := [(3, ⟨[0, 1, 5, 6], [], [], pVG (rCo (rGp 0) (rCo (rX .shr 4 pathR) (rCo (rX .own 2 wantR) (rOne rI)))) (gOne (l1CurR .shr)), []⟩)] } ⟨ok_sl1Once, ok_sl1Below, trivial⟩ trivial (fun x => by kernel_rfl)
noncomputable def E_sl16Prio : Entry := ⟨aVG (rCo (rGp 0) (rOne (rX .shr 4 pathR))) (gOne (l1CurR .shr)), qVG (rAg prioR) (gOne (l1CurR .shr)), fun (x : ((Unit × (List Path)) × L1Cur)) => S_sl16Prio x.1.2 x.2⟩
theorem ok_sl16Prio : Ok gG 58 E_sl16Prio := mk Tryz.func58 (by kernel_rfl) [((34, 0), E_sl1Once), ((18, 0), E_sl1Below)] [] (memN [18, 34]) [(63, pathR)] { lv := [(2, ⟨[0, 1, 5], [(4, 4, false)], [(4, 2, false, false)], pVOG (rCo (rGp 0) (rCo (rX .shr 4 pathR) (rOne rI))) (oRow1 prioR) (gOne (l1CurR .shr)), []⟩)] } ⟨ok_sl1Once, ok_sl1Below, trivial⟩ trivial (fun x => by kernel_rfl)
noncomputable def E_sl27Draw_u : Entry := ⟨aVG (rCo (rGp 0) (rOne rI)) (gOne (l1CurR .shr)), qVG (rX .unq 3 (noteR .unq)) (gOne (l1CurR .shr)), fun (x : ((Unit × Int) × L1Cur)) => S_sl27Draw_u x.1.2 x.2⟩
theorem ok_sl27Draw_u : Ok gG 93 E_sl27Draw_u := mk Tryz.func93 (by kernel_rfl) [((18, 0), E_sl1Below), ((128, 0), E_sNoteLights)] [] (memN [18]) [] { tk := [(1, 1), (6, 1), (10, 0), (10, 5), (11, 4), (11, 5), (11, 7), (13, 0), (13, 1)], hb := [((1, 0), 17), ((6, 0), 17), ((10, 4), 18), ((11, 0), 20), ((11, 2), 20), ((11, 3), 2)], vr := [((10, 4), 1)], rt := [((11, 3), (rTu (rCo (rX .unq 3 (noteR .unq)) (rOne rB))))], lv := [(4, ⟨[0, 1, 5, 6, 7], [], [], pVG (rCo (rGp 0) (rCo rI (rCo (rX .unq 3 (noteR .unq)) (rCo rI (rOne rI))))) (gOne (l1CurR .shr)), []⟩), (8, ⟨[0, 1, 5, 6, 7, 8, 9], [], [], pVG (rCo (rGp 0) (rCo rI (rCo (rX .unq 3 (noteR .unq)) (rCo rI (rCo rI (rCo (rX .unq 1 iR) (rOne rI))))))) (gOne (l1CurR .shr)), []⟩)] } ⟨ok_sl1Below, ok_sNoteLights, trivial⟩ trivial (fun x => by kernel_rfl)
noncomputable def E_sl27Any : Entry := ⟨aVG (rOne (rGp 0)) (gOne (l1CurR .shr)), qVG (rX .own 3 (noteR .own)) (gOne (l1CurR .shr)), fun (x : (Unit × L1Cur)) => S_sl27Any x.2⟩
theorem ok_sl27Any : Ok gG 60 E_sl27Any := mk Tryz.func60 (by kernel_rfl) [((18, 0), E_sl1Below), ((93, 0), E_sl27Draw_u), ((43, 0), E_sl1Int)] [] (memN [18, 43, 93]) [(3, iR)] { tk := [(3, 1), (9, 8), (14, 1)], hb := [((3, 0), 22), ((9, 6), 12), ((9, 11), 25), ((13, 4), 1), ((13, 8), 8), ((13, 9), 11), ((14, 0), 22)], th := [(1, 4)], ro := [(9, (noteR .unq))] } ⟨ok_sl1Below, ok_sl27Draw_u, ok_sl1Int, trivial⟩ trivial (fun x => by kernel_rfl)
noncomputable def E_sl33Any : Entry := ⟨aVG (rOne (rGp 0)) (gOne (l1CurR .shr)), qVG (rAg (townR .own .own .own .own .own .own .own)) (gOne (l1CurR .shr)), fun (x : (Unit × L1Cur)) => S_sl33Any x.2⟩
theorem ok_sl33Any : Ok gG 36 E_sl33Any := mk Tryz.func36 (by kernel_rfl) [((55, 0), E_sl33Draw), ((56, 0), E_sl14Draw), ((57, 0), E_sl15Wants), ((58, 0), E_sl16Prio), ((18, 0), E_sl1Below), ((59, 0), E_sl19Lamps), ((60, 0), E_sl27Any), ((43, 0), E_sl1Int)] [] (memN [18, 43, 55, 56, 57, 58, 59, 60]) [] { tk := [(1, 3), (2, 5), (3, 5), (9, 4), (9, 6), (13, 5), (17, 3), (22, 1)], mo := [(22, 0)], hb := [((9, 1), 12)] } ⟨ok_sl33Draw, ok_sl14Draw, ok_sl15Wants, ok_sl16Prio, ok_sl1Below, ok_sl19Lamps, ok_sl27Any, ok_sl1Int, trivial⟩ trivial (fun x => by kernel_rfl)
noncomputable def E_sDrawIsTown : Entry := ⟨aV (rOne (rX .shr 1 yR)), qV (rAg (townR .own .own .own .own .own .own .own)), fun (x : (List Int)) => S_sDrawIsTown x⟩
theorem ok_sDrawIsTown : Ok gG 25 E_sDrawIsTown := mk Tryz.func25 (by kernel_rfl) [((17, 0), E_sl1New), ((36, 0), E_sl33Any)] [] (memN [17, 36]) [] { tk := [(2, 2)] } ⟨ok_sl1New, ok_sl33Any, trivial⟩ trivial (fun x => by kernel_rfl)
noncomputable def E_sDrawFormatTown : Entry := ⟨aV (rOne (rX .shr 1 yR)), qV (rAg (townR .own .own .own .own .own .own .own)), fun (x : (List Int)) => S_sDrawFormatTown x⟩
theorem ok_sDrawFormatTown : Ok gG 12 E_sDrawFormatTown := mk Tryz.func12 (by kernel_rfl) [((25, 0), E_sDrawIsTown)] [] n0 [] { tk := [(1, 2)] } ⟨ok_sDrawIsTown, trivial⟩ trivial (fun x => by kernel_rfl)
noncomputable def E_iInRange : Entry := ⟨aV (rCo rI (rCo rI (rOne rI))), qV rB, fun (x : (Int × Int × Int)) => S_iInRange x.1 x.2.1 x.2.2⟩
theorem ok_iInRange : Ok gG 61 E_iInRange := mk Tryz.func61 (by kernel_rfl) [] [] n0 [] {} trivial trivial (fun x => by kernel_rfl)
noncomputable def E_iIsPath : Entry := ⟨aV (rOne (rAg pathR)), qV rB, fun (x : Path) => S_iIsPath x⟩
theorem ok_iIsPath : Ok gG 37 E_iIsPath := mk Tryz.func37 (by kernel_rfl) [((61, 0), E_iInRange)] [] n0 [] {} ⟨ok_iInRange, trivial⟩ trivial (fun x => by kernel_rfl)
noncomputable def E_iArePaths : Entry := ⟨aV (rOne (rX .shr 4 pathR)), qV rB, fun (x : (List Path)) => S_iArePaths x⟩
theorem ok_iArePaths : Ok gG 86 E_iArePaths := mk Tryz.func86 (by kernel_rfl) [((37, 0), E_iIsPath)] [] n0 [(63, pathR)] { lv := [(4, ⟨[0, 8, 9, 10], [], [], pV (rCo (rX .shr 4 pathR) (rCo (rX .shr 4 pathR) (rCo rI (rOne rI)))), []⟩)] } ⟨ok_iIsPath, trivial⟩ trivial (fun x => by kernel_rfl)
noncomputable def E_iFindPath_1 : Entry := ⟨aV (rCo (rAg pathR) (rOne (rRp iR))), qV rB, fun (x : (Path × Int)) => S_iFindPath_1 x.1 x.2⟩
theorem ok_iFindPath_1 : Ok gG 120 E_iFindPath_1 := mk Tryz.func120 (by kernel_rfl) [] [] n0 [] {} trivial trivial (fun x => by kernel_rfl)
noncomputable def E_slices_IndexFunc_Path_Path : Entry := ⟨aV (rCo (rX .shr 4 pathR) (rOne (rFn 120 (rOne (rRp iR))))), qV rI, fun (x : ((List Path) × Int)) => S_slices_IndexFunc_Path_Path x.1 x.2⟩
theorem ok_slices_IndexFunc_Path_Path : Ok gG 119 E_slices_IndexFunc_Path_Path := mk Tryz.func119 (by kernel_rfl) [((120, 0), E_iFindPath_1)] [] n0 [(63, pathR)] { lv := [(2, ⟨[0, 1, 7, 8], [], [], pV (rCo (rX .shr 4 pathR) (rCo (rFn 120 (rOne (rRp iR))) (rCo rI (rOne rI)))), []⟩)] } ⟨ok_iFindPath_1, trivial⟩ trivial (fun x => by kernel_rfl)
noncomputable def E_iFindPath : Entry := ⟨aV (rCo (rX .shr 4 pathR) (rOne rI)), qV rI, fun (x : ((List Path) × Int)) => S_iFindPath x.1 x.2⟩
theorem ok_iFindPath : Ok gG 87 E_iFindPath := mk Tryz.func87 (by kernel_rfl) [((119, 0), E_slices_IndexFunc_Path_Path)] [] n0 [] {} ⟨ok_slices_IndexFunc_Path_Path, trivial⟩ trivial (fun x => by kernel_rfl)
noncomputable def E_iAreLamps : Entry := ⟨aV (rCo (rX .shr 4 pathR) (rOne (rX .shr 3 lampR))), qV rB, fun (x : ((List Path) × (List Lamp))) => S_iAreLamps x.1 x.2⟩
theorem ok_iAreLamps : Ok gG 52 E_iAreLamps := mk Tryz.func52 (by kernel_rfl) [((86, 0), E_iArePaths), ((87, 0), E_iFindPath)] [] n0 [(101, lampR)] { lv := [(4, ⟨[0, 1, 12, 13, 14], [], [], pV (rCo (rX .shr 4 pathR) (rCo (rX .shr 3 lampR) (rCo (rX .shr 3 lampR) (rCo rI (rOne rI))))), []⟩), (9, ⟨[0, 1, 12, 13, 14, 36, 37, 38], [(6, 6, false)], [(6, 3, false, false)], pVO (rCo (rX .shr 4 pathR) (rCo (rX .shr 3 lampR) (rCo (rX .shr 3 lampR) (rCo rI (rCo rI (rCo (rX .shr 3 lampR) (rCo rI (rOne rI)))))))) (oRow1 lampR), []⟩)] } ⟨ok_iArePaths, ok_iFindPath, trivial⟩ trivial (fun x => by kernel_rfl)
noncomputable def E_iModeFor_1 : Entry := ⟨aV (rOne (rAg lampR)), qV rB, fun (x : Lamp) => S_iModeFor_1 x⟩
theorem ok_iModeFor_1 : Ok gG 54 E_iModeFor_1 := mk Tryz.func54 (by kernel_rfl) [] [] n0 [] {} trivial trivial (fun x => by kernel_rfl)
noncomputable def E_slices_IndexFunc_Lamp_Lamp : Entry := ⟨aV (rCo (rX .shr 3 lampR) (rOne (rFn 54 rNil))), qV rI, fun (x : ((List Lamp) × Unit)) => S_slices_IndexFunc_Lamp_Lamp x.1⟩
theorem ok_slices_IndexFunc_Lamp_Lamp : Ok gG 88 E_slices_IndexFunc_Lamp_Lamp := mk Tryz.func88 (by kernel_rfl) [((54, 0), E_iModeFor_1)] [] n0 [(101, lampR)] { lv := [(2, ⟨[0, 1, 7, 8], [], [], pV (rCo (rX .shr 3 lampR) (rCo (rFn 54 rNil) (rCo rI (rOne rI)))), []⟩)] } ⟨ok_iModeFor_1, trivial⟩ trivial (fun x => by kernel_rfl)
noncomputable def E_slices_ContainsFunc_Lamp_Lamp : Entry := ⟨aV (rCo (rX .shr 3 lampR) (rOne (rFn 54 rNil))), qV rB, fun (x : ((List Lamp) × Unit)) => S_slices_ContainsFunc_Lamp_Lamp x.1⟩
theorem ok_slices_ContainsFunc_Lamp_Lamp : Ok gG 53 E_slices_ContainsFunc_Lamp_Lamp := mk Tryz.func53 (by kernel_rfl) [((88, 0), E_slices_IndexFunc_Lamp_Lamp)] [] n0 [] {} ⟨ok_slices_IndexFunc_Lamp_Lamp, trivial⟩ trivial (fun x => by kernel_rfl)
noncomputable def E_iModeFor : Entry := ⟨aV (rCo (rX .shr 4 pathR) (rCo (rX .shr 3 lampR) (rOne rB))), qV rI, fun (x : ((List Path) × (List Lamp) × Bool)) => S_iModeFor x.1 x.2.1 x.2.2⟩
theorem ok_iModeFor : Ok gG 35 E_iModeFor := mk Tryz.func35 (by kernel_rfl) [((52, 0), E_iAreLamps), ((53, 0), E_slices_ContainsFunc_Lamp_Lamp)] [] n0 [] {} ⟨ok_iAreLamps, ok_slices_ContainsFunc_Lamp_Lamp, trivial⟩ trivial (fun x => by kernel_rfl)
noncomputable def E_iModeOf : Entry := ⟨aV (rOne (rAg (townR .shr .shr .shr .shr .shr .shr .shr))), qV rI, fun (x : Town) => S_iModeOf x⟩
theorem ok_iModeOf : Ok gG 24 E_iModeOf := mk Tryz.func24 (by kernel_rfl) [((35, 0), E_iModeFor)] [] n0 [] {} ⟨ok_iModeFor, trivial⟩ trivial (fun x => by kernel_rfl)
noncomputable def E_iModeName : Entry := ⟨aV (rOne rI), qV rS, fun (x : Int) => S_iModeName x⟩
theorem ok_iModeName : Ok gG 23 E_iModeName := mk Tryz.func23 (by kernel_rfl) [] [] n0 [] {} trivial trivial (fun x => by kernel_rfl)
noncomputable def E_iFormatTown : Entry := ⟨aV (rOne (rAg (townR .shr .shr .shr .shr .shr .shr .shr))), qV rS, fun (x : Town) => S_iFormatTown x⟩
theorem ok_iFormatTown : Ok gG 11 E_iFormatTown := mk Tryz.func11 (by kernel_rfl) [((21, 0), E_iFormatInt), ((24, 0), E_iModeOf), ((23, 0), E_iModeName), ((13, 0), E_iFormatNumbers)] [] n0 [] {} ⟨ok_iFormatInt, ok_iModeOf, ok_iModeName, ok_iFormatNumbers, trivial⟩ trivial (fun x => by kernel_rfl)
noncomputable def E_iPathText : Entry := ⟨aV (rOne (rAg pathR)), qV rS, fun (x : Path) => S_iPathText x⟩
theorem ok_iPathText : Ok gG 26 E_iPathText := mk Tryz.func26 (by kernel_rfl) [((37, 0), E_iIsPath), ((21, 0), E_iFormatInt)] [] n0 [] {} ⟨ok_iIsPath, ok_iFormatInt, trivial⟩ trivial (fun x => by kernel_rfl)
noncomputable def E_iFormatPaths : Entry := ⟨aV (rOne (rX .shr 4 pathR)), qV rS, fun (x : (List Path)) => S_iFormatPaths x⟩
theorem ok_iFormatPaths : Ok gG 14 E_iFormatPaths := mk Tryz.func14 (by kernel_rfl) [((26, 0), E_iPathText), ((19, 0), E_ijoined)] [] n0 [(63, pathR)] { tk := [(1, 1), (5, 0), (5, 4), (5, 5), (7, 0)], lv := [(3, ⟨[3, 7, 8, 9], [], [], pV (rCo (rX .own 1 sR) (rCo (rX .shr 4 pathR) (rCo rI (rOne rI)))), []⟩)] } ⟨ok_iPathText, ok_ijoined, trivial⟩ trivial (fun x => by kernel_rfl)
noncomputable def E_sl14Any : Entry := ⟨aVG (rOne (rGp 0)) (gOne (l1CurR .shr)), qVG (rTu (rCo (rX .own 4 pathR) (rOne (rAg (controlR .own .own))))) (gOne (l1CurR .shr)), fun (x : (Unit × L1Cur)) => S_sl14Any x.2⟩
theorem ok_sl14Any : Ok gG 38 E_sl14Any := mk Tryz.func38 (by kernel_rfl) [((44, 0), E_sl5Any), ((56, 0), E_sl14Draw), ((18, 0), E_sl1Below), ((43, 0), E_sl1Int)] [] (memN [18, 43, 44, 56]) [] { tk := [(1, 2), (2, 4), (9, 2), (11, 2), (12, 0), (12, 2)], hb := [((12, 1), 1), ((12, 3), 6)] } ⟨ok_sl5Any, ok_sl14Draw, ok_sl1Below, ok_sl1Int, trivial⟩ trivial (fun x => by kernel_rfl)
noncomputable def E_sDrawIsControl : Entry := ⟨aV (rOne (rX .shr 1 yR)), qV (rTu (rCo (rX .own 4 pathR) (rOne (rAg (controlR .own .own))))), fun (x : (List Int)) => S_sDrawIsControl x⟩
theorem ok_sDrawIsControl : Ok gG 27 E_sDrawIsControl := mk Tryz.func27 (by kernel_rfl) [((17, 0), E_sl1New), ((38, 0), E_sl14Any)] [] (memN [17, 38]) [] { tk := [(2, 2), (2, 3), (2, 4), (2, 5)] } ⟨ok_sl1New, ok_sl14Any, trivial⟩ trivial (fun x => by kernel_rfl)
noncomputable def E_sDrawFormatControl : Entry := ⟨aV (rOne (rX .shr 1 yR)), qV (rAg (controlR .own .own)), fun (x : (List Int)) => S_sDrawFormatControl x⟩
theorem ok_sDrawFormatControl : Ok gG 16 E_sDrawFormatControl := mk Tryz.func16 (by kernel_rfl) [((27, 0), E_sDrawIsControl)] [] n0 [] { tk := [(1, 2), (1, 3), (1, 4), (1, 6), (1, 7), (2, 1)], mo := [(2, 0)] } ⟨ok_sDrawIsControl, trivial⟩ trivial (fun x => by kernel_rfl)
noncomputable def E_iFormatControl : Entry := ⟨aV (rOne (rAg (controlR .shr .shr))), qV rS, fun (x : Control) => S_iFormatControl x⟩
theorem ok_iFormatControl : Ok gG 15 E_iFormatControl := mk Tryz.func15 (by kernel_rfl) [((13, 0), E_iFormatNumbers), ((21, 0), E_iFormatInt)] [] n0 [] {} ⟨ok_iFormatNumbers, ok_iFormatInt, trivial⟩ trivial (fun x => by kernel_rfl)
noncomputable def E_lFnViews : Entry := ⟨aV (rOne (rX .shr 1 yR)), qV rB, fun (x : (List Int)) => S_lFnViews x⟩
theorem ok_lFnViews : Ok gG 3 E_lFnViews := mk Tryz.func3 (by kernel_rfl) [((4, 0), E_lbig), ((5, 0), E_sDrawFormatLights), ((6, 0), E_iFormatLights), ((7, 0), E_sDrawFormatPlan), ((8, 0), E_iFormatPlan), ((10, 0), E_sDrawFormatReport), ((9, 0), E_iFormatReport), ((12, 0), E_sDrawFormatTown), ((11, 0), E_iFormatTown), ((13, 0), E_iFormatNumbers), ((14, 0), E_iFormatPaths), ((16, 0), E_sDrawFormatControl), ((15, 0), E_iFormatControl)] [] n0 [] { tk := [(3, 2), (5, 11)], lv := [(11, ⟨[0, 5, 6, 7, 8], [], [], pV (rCo (rX .shr 1 yR) (rCo (rX .shr 2 (partR .shr)) (rCo rS (rCo rI (rOne rI))))), []⟩), (18, ⟨[0, 5, 7, 9, 10, 11], [], [], pV (rCo (rX .shr 1 yR) (rCo (rX .shr 2 (partR .shr)) (rCo rI (rCo rS (rCo rI (rOne rI)))))), []⟩), (25, ⟨[0, 5, 7, 10, 12, 13, 14], [], [], pV (rCo (rX .shr 1 yR) (rCo (rX .shr 2 (partR .shr)) (rCo rI (rCo rI (rCo rS (rCo rI (rOne rI))))))), []⟩)] } ⟨ok_lbig, ok_sDrawFormatLights, ok_iFormatLights, ok_sDrawFormatPlan, ok_iFormatPlan, ok_sDrawFormatReport, ok_iFormatReport, ok_sDrawFormatTown, ok_iFormatTown, ok_iFormatNumbers, ok_iFormatPaths, ok_sDrawFormatControl, ok_iFormatControl, trivial⟩ trivial (fun x => by kernel_rfl)
end Go.Proofs.YtjojcbmkcnkjoaaGreatDoor
