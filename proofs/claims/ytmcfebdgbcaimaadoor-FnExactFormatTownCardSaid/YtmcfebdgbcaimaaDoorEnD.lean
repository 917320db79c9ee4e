/- Part of the proof: see the last text of the claim. -/
import Derived.Test.YtmcfebdgbcaimaaDoorShD
import Derived.KernelRfl
import Derived.Test.YtmcfebdgbcaimaaDoorRows
set_option linter.all false
namespace Go.Proofs.YtmcfebdgbcaimaaDoor
open Go.Fx Go.Sh
set_option maxRecDepth 100000
set_option linter.unusedSectionVars false
def emS : Value := .string ⟨#[]⟩
def tab : List (Nat × TD) := [(3, .sc (.int .i64 0)),
  (4, .sc (.bool false)),
  (5, .sc (.int .u8 0)),
  (9, .sc emS),
  (23, .st [(none, .int .i64 0), (none, .int .i64 0), (none, .int .i64 0), (none, .int .i64 0)] [(0, 1), (1, 1), (2, 1), (3, 1)]),
  (28, .sl 3 1),
  (34, .st [(none, .int .i64 0), (none, .int .i64 0), (none, .int .i64 0), (none, .int .i64 0), (none, .int .i64 0)] [(0, 1), (1, 1), (2, 1), (3, 1), (4, 1)]),
  (36, .st [(none, .int .i64 0), (none, .int .i64 0), (none, .int .i64 0), (none, .int .i64 0), (none, .int .i64 0)] [(0, 1), (1, 1), (2, 1), (3, 1), (4, 1)]),
  (39, .sl 88 4),
  (42, .sl 23 4),
  (47, .st [(some 1, .slice none 0 0), (none, .int .i64 0), (some 1, .slice none 0 0), (none, .int .i64 0)] [(0, 1), (1, 1), (2, 1), (3, 1)]),
  (50, .st [(some 1, .slice none 0 0), (none, .int .i64 0), (some 1, .slice none 0 0), (none, .int .i64 0)] [(0, 1), (1, 1), (2, 1), (3, 1)]),
  (54, .sl 92 2),
  (57, .sl 93 2),
  (61, .sl 117 2),
  (63, .st [(none, .int .i64 0), (none, .int .i64 0)] [(0, 1), (1, 1)]),
  (64, .sl 121 3),
  (65, .sl 112 3),
  (67, .st [(some 4, .slice none 0 0), (some 1, .slice none 0 0), (none, .int .i64 0), (some 1, .slice none 0 0), (none, .int .i64 0), (some 2, .slice none 0 0), (none, .int .i64 0), (none, .int .i64 0), (some 3, .slice none 0 0), (none, .bool false), (some 3, .slice none 0 0), (none, .int .i64 0), (none, .int .i64 0)] [(0, 1), (1, 4), (5, 1), (6, 2), (8, 1), (9, 1), (10, 1), (11, 1), (12, 1)]),
  (70, .sl 115 2),
  (71, .st [(none, .int .i64 0), (none, .int .i64 0)] [(0, 1), (1, 1)]),
  (72, .sl 119 3),
  (73, .sl 122 3),
  (75, .st [(some 4, .slice none 0 0), (some 1, .slice none 0 0), (none, .int .i64 0), (some 1, .slice none 0 0), (none, .int .i64 0), (some 2, .slice none 0 0), (none, .int .i64 0), (none, .int .i64 0), (some 3, .slice none 0 0), (none, .bool false), (some 3, .slice none 0 0), (none, .int .i64 0), (none, .int .i64 0)] [(0, 1), (1, 4), (5, 1), (6, 2), (8, 1), (9, 1), (10, 1), (11, 1), (12, 1)]),
  (79, .sc .nilFunc),
  (84, .sl 9 1),
  (88, .st [(none, .int .i64 0), (none, .int .i64 0), (none, .int .i64 0), (none, .int .i64 0)] [(0, 1), (1, 1), (2, 1), (3, 1)]),
  (92, .st [(some 1, .slice none 0 0), (none, .int .i64 0)] [(0, 1), (1, 1)]),
  (93, .st [(some 1, .slice none 0 0), (none, .int .i64 0)] [(0, 1), (1, 1)]),
  (109, .sl 5 1),
  (112, .st [(none, .int .i64 0), (some 1, .slice none 0 0), (none, .int .i64 0)] [(0, 1), (1, 1), (2, 1)]),
  (115, .st [(none, .int .i64 0), (none, .int .i64 0)] [(0, 1), (1, 1)]),
  (117, .st [(none, .int .i64 0), (none, .int .i64 0)] [(0, 1), (1, 1)]),
  (119, .st [(none, .int .i64 0), (none, .int .i64 0), (none, .bool false)] [(0, 1), (1, 1), (2, 1)]),
  (121, .st [(none, .int .i64 0), (none, .int .i64 0), (none, .bool false)] [(0, 1), (1, 1), (2, 1)]),
  (122, .st [(none, .int .i64 0), (some 1, .slice none 0 0), (none, .int .i64 0)] [(0, 1), (1, 1), (2, 1)]),
  (138, .sc .nilFunc)]
theorem tab_ok : TOk Tryd.prog (tabT tab) := tabT_ok (by kernel_rfl)
theorem mixed : Tryd.prog.follows .mixedOrders = true := by kernel_rfl
abbrev nG : Nat := 2
class GOk (gG : Nat → Option Obj) : Prop where
  tab : ∀ w : World, (∀ b, b < nG → w.heap[b]? = gG b) → Lib.TabIs Tryd.prog w "internal/strconv.uint64pow10" .u64 Lib.pow10Tab
variable {gG : Nat → Option Obj} [GOk gG]
abbrev Ok (gG : Nat → Option Obj) (f : Nat) (en : Entry) : Prop := EntryOk Tryd.prog nG gG f en
theorem mk {f : Nat} {fn : Func} {en : Entry} (hfn : Tryd.prog.funcs[f]? = some fn) (hname : (fn.name == "runtime.NumGoroutine") = false) (cs : List ((Nat × Nat) × Entry)) (R : List (Nat × RR)) (h : Hints) (hcs : AllOk Tryd.prog nG gG cs)
    (hL : ∀ x, evalBody (ctxOf (tabT tab) cs (fun _ => false) R h fn.ntmps NN) fn en.rs (en.ps.enc x).1 (en.ps.enc x).2 = en.S x) : Ok gG f en := fn_ok tab_ok mixed hfn hname hcs hL
def laysJoin_ren : Go.Shelf.Ren := ⟨fun | 156 => 75 | 165 => 88 | 166 => 89 | 169 => 90 | 240 => 96 | 241 => 97 | 276 => 107 | 277 => 108 | n => n, fun | 31 => 84 | 9 => 9 | 3 => 3 | 4 => 4 | 0 => 0 | 20 => 20 | 72 => 129 | 76 => 133 | 70 => 127 | 37 => 109 | 75 => 132 | 127 => 140 | 164 => 150 | 5 => 5 | 80 => 135 | n => n, fun n => n⟩
theorem laysJoin : Go.Proofs.Lays.n156 Tryd.prog laysJoin_ren where
  mixed := by kernel_rfl
  f156 := Tryd.func75.trans (congrArg some (by kernel_rfl))
  f165 := Tryd.func88.trans (congrArg some (by kernel_rfl))
  f166 := Tryd.func89.trans (congrArg some (by kernel_rfl))
  f169 := Tryd.func90.trans (congrArg some (by kernel_rfl))
  f240 := Tryd.func96.trans (congrArg some (by kernel_rfl))
  f241 := Tryd.func97.trans (congrArg some (by kernel_rfl))
  f276 := Tryd.func107.trans (congrArg some (by kernel_rfl))
  f277 := Tryd.func108.trans (congrArg some (by kernel_rfl))
  t0 := Tryd.underlying0
  a0 := Tryd.isAgg0
  z0 := Tryd.sizeOf0
  v0 := Tryd.zeroValue0
  t3 := Tryd.underlying3
  a3 := Tryd.isAgg3
  z3 := Tryd.sizeOf3
  v3 := Tryd.zeroValue3
  t4 := Tryd.underlying4
  a4 := Tryd.isAgg4
  z4 := Tryd.sizeOf4
  v4 := Tryd.zeroValue4
  t9 := Tryd.underlying9
  a9 := Tryd.isAgg9
  z9 := Tryd.sizeOf9
  v9 := Tryd.zeroValue9
  t20 := Tryd.underlying20
  a20 := Tryd.isAgg20
  z20 := Tryd.sizeOf20
  v20 := Tryd.zeroValue20
  t31 := Tryd.underlying84
  a31 := Tryd.isAgg84
  z31 := Tryd.sizeOf84
  v31 := Tryd.zeroValue84
  t37 := Tryd.underlying109
  a37 := Tryd.isAgg109
  z37 := Tryd.sizeOf109
  v37 := Tryd.zeroValue109
  t70 := Tryd.underlying127
  a70 := Tryd.isAgg127
  z70 := Tryd.sizeOf127
  v70 := Tryd.zeroValue127
  t72 := Tryd.underlying129
  a72 := Tryd.isAgg129
  z72 := Tryd.sizeOf129
  v72 := Tryd.zeroValue129
  t75 := Tryd.underlying132
  a75 := Tryd.isAgg132
  z75 := Tryd.sizeOf132
  v75 := Tryd.zeroValue132
  t76 := Tryd.underlying133
  a76 := Tryd.isAgg133
  z76 := Tryd.sizeOf133
  v76 := Tryd.zeroValue133
  t127 := Tryd.underlying140
  a127 := Tryd.isAgg140
  z127 := Tryd.sizeOf140
  v127 := Tryd.zeroValue140
  t164 := Tryd.underlying150
  a164 := Tryd.isAgg150
  z164 := Tryd.sizeOf150
  v164 := Tryd.zeroValue150
theorem laysJoinX : Go.Proofs.Builder.Extra Tryd.prog laysJoin_ren where
  sizeBuilder := by kernel_rfl
  liesBuilder := by kernel_rfl
  t5 := Tryd.underlying5
  a5 := Tryd.isAgg5
  z5 := Tryd.sizeOf5
  v5 := Tryd.zeroValue5
  infoByte := by kernel_rfl
  cellsByte := by kernel_rfl
  sizeByte := by kernel_rfl
  neB5 := by decide
def laysItoa_ren : Go.Shelf.Ren := ⟨fun | 171 => 74 | 243 => 87 | 246 => 95 | 283 => 103 | 284 => 104 | 285 => 105 | 286 => 106 | 129 => 112 | 317 => 111 | 318 => 113 | 319 => 114 | 320 => 115 | 337 => 116 | 338 => 117 | n => n, fun | 3 => 3 | 9 => 9 | 2 => 2 | 4 => 4 | 171 => 144 | 0 => 0 | 53 => 145 | 37 => 109 | 5 => 5 | 173 => 148 | 212 => 156 | 51 => 157 | 20 => 20 | 213 => 158 | 46 => 160 | 232 => 163 | 233 => 164 | n => n, fun | 17 => 1 | 18 => 2 | 19 => 3 | n => n⟩
theorem laysItoa : Go.Proofs.LaysM.n171 Tryd.prog laysItoa_ren where
  mixed := by kernel_rfl
  f129 := Tryd.func112.trans (congrArg some (by kernel_rfl))
  f171 := Tryd.func74.trans (congrArg some (by kernel_rfl))
  f243 := Tryd.func87.trans (congrArg some (by kernel_rfl))
  f246 := Tryd.func95.trans (congrArg some (by kernel_rfl))
  f283 := Tryd.func103.trans (congrArg some (by kernel_rfl))
  f284 := Tryd.func104.trans (congrArg some (by kernel_rfl))
  f285 := Tryd.func105.trans (congrArg some (by kernel_rfl))
  f286 := Tryd.func106.trans (congrArg some (by kernel_rfl))
  f317 := Tryd.func111.trans (congrArg some (by kernel_rfl))
  f318 := Tryd.func113.trans (congrArg some (by kernel_rfl))
  f319 := Tryd.func114.trans (congrArg some (by kernel_rfl))
  f320 := Tryd.func115.trans (congrArg some (by kernel_rfl))
  f337 := Tryd.func116.trans (congrArg some (by kernel_rfl))
  f338 := Tryd.func117.trans (congrArg some (by kernel_rfl))
  t0 := Tryd.underlying0
  a0 := Tryd.isAgg0
  z0 := Tryd.sizeOf0
  v0 := Tryd.zeroValue0
  t2 := Tryd.underlying2
  a2 := Tryd.isAgg2
  z2 := Tryd.sizeOf2
  v2 := Tryd.zeroValue2
  t3 := Tryd.underlying3
  a3 := Tryd.isAgg3
  z3 := Tryd.sizeOf3
  v3 := Tryd.zeroValue3
  t4 := Tryd.underlying4
  a4 := Tryd.isAgg4
  z4 := Tryd.sizeOf4
  v4 := Tryd.zeroValue4
  t5 := Tryd.underlying5
  a5 := Tryd.isAgg5
  z5 := Tryd.sizeOf5
  v5 := Tryd.zeroValue5
  t9 := Tryd.underlying9
  a9 := Tryd.isAgg9
  z9 := Tryd.sizeOf9
  v9 := Tryd.zeroValue9
  t20 := Tryd.underlying20
  a20 := Tryd.isAgg20
  z20 := Tryd.sizeOf20
  v20 := Tryd.zeroValue20
  t37 := Tryd.underlying109
  a37 := Tryd.isAgg109
  z37 := Tryd.sizeOf109
  v37 := Tryd.zeroValue109
  t46 := Tryd.underlying160
  a46 := Tryd.isAgg160
  z46 := Tryd.sizeOf160
  v46 := Tryd.zeroValue160
  t51 := Tryd.underlying157
  a51 := Tryd.isAgg157
  z51 := Tryd.sizeOf157
  v51 := Tryd.zeroValue157
  t53 := Tryd.underlying145
  a53 := Tryd.isAgg145
  z53 := Tryd.sizeOf145
  v53 := Tryd.zeroValue145
  t171 := Tryd.underlying144
  a171 := Tryd.isAgg144
  z171 := Tryd.sizeOf144
  v171 := Tryd.zeroValue144
  t173 := Tryd.underlying148
  a173 := Tryd.isAgg148
  z173 := Tryd.sizeOf148
  v173 := Tryd.zeroValue148
  t212 := Tryd.underlying156
  a212 := Tryd.isAgg156
  z212 := Tryd.sizeOf156
  v212 := Tryd.zeroValue156
  t213 := Tryd.underlying158
  a213 := Tryd.isAgg158
  z213 := Tryd.sizeOf158
  t232 := Tryd.underlying163
  a232 := Tryd.isAgg163
  z232 := Tryd.sizeOf163
  v232 := Tryd.zeroValue163
  t233 := Tryd.underlying164
  a233 := Tryd.isAgg164
  z233 := Tryd.sizeOf164
  v233 := Tryd.zeroValue164
  g17 := by kernel_rfl
  g18 := by kernel_rfl
  g19 := by kernel_rfl
  i0 := by kernel_rfl
  i2 := by kernel_rfl
  i3 := by kernel_rfl
  i4 := by kernel_rfl
  i5 := by kernel_rfl
  i9 := by kernel_rfl
  i20 := by kernel_rfl
  i37 := by kernel_rfl
  i46 := by kernel_rfl
  i51 := by kernel_rfl
  i53 := by kernel_rfl
  i171 := by kernel_rfl
  i173 := by kernel_rfl
  i212 := by kernel_rfl
  i232 := by kernel_rfl
  i233 := by kernel_rfl
  m17 := by kernel_rfl
  m18 := by kernel_rfl
  m19 := by kernel_rfl
noncomputable def E_strconv_Itoa : Entry := ⟨aV (rOne rI), qV rS, fun (x : Int) => S_strconv_Itoa x⟩
theorem ok_strconv_Itoa : Ok gG 74 E_strconv_Itoa := strconv_Itoa_ok laysItoa rfl Tryd.func74 (by kernel_rfl) (by kernel_rfl) GOk.tab
noncomputable def E_strings_Join : Entry := ⟨aV (rCo (rX .shr 1 sR) (rOne rS)), qV rS, fun (x : ((List ByteArray) × ByteArray)) => S_strings_Join x.1 x.2⟩
theorem ok_strings_Join : Ok gG 75 E_strings_Join := strings_Join_ok laysJoin laysJoinX rfl Tryd.func75 (by kernel_rfl) (by kernel_rfl)
noncomputable def E_sl1In : Entry := ⟨aV (rCo rI (rCo rI (rOne rI))), qV rB, fun (x : (Int × Int × Int)) => S_sl1In x.1 x.2.1 x.2.2⟩
theorem ok_sl1In : Ok gG 71 E_sl1In := mk Tryd.func71 (by kernel_rfl) [] [] {} trivial (fun x => by kernel_rfl)
noncomputable def E_sIsPath : Entry := ⟨aV (rOne (rAg pathR)), qV rB, fun (x : Path) => S_sIsPath x⟩
theorem ok_sIsPath : Ok gG 40 E_sIsPath := mk Tryd.func40 (by kernel_rfl) [((71, 0), E_sl1In)] [] {} ⟨ok_sl1In, trivial⟩ (fun x => by kernel_rfl)
noncomputable def E_sFormatInt : Entry := ⟨aV (rOne rI), qV rS, fun (x : Int) => S_sFormatInt x⟩
theorem ok_sFormatInt : Ok gG 45 E_sFormatInt := mk Tryd.func45 (by kernel_rfl) [] [] { lv := [(5, ⟨[0, 3, 4], [], [], pV (rCo rI (rCo rS (rOne rI)))⟩)] } trivial (fun x => by kernel_rfl)
noncomputable def E_sPathText : Entry := ⟨aV (rOne (rAg pathR)), qV rS, fun (x : Path) => S_sPathText x⟩
theorem ok_sPathText : Ok gG 41 E_sPathText := mk Tryd.func41 (by kernel_rfl) [((40, 0), E_sIsPath), ((45, 0), E_sFormatInt)] [(9, sR)] {} ⟨ok_sIsPath, ok_sFormatInt, trivial⟩ (fun x => by kernel_rfl)
noncomputable def E_sParsePath : Entry := ⟨aV (rOne rS), qV (rTu (rCo (rAg pathR) (rOne rB))), fun (x : ByteArray) => S_sParsePath x⟩
theorem ok_sParsePath : Ok gG 10 E_sParsePath := mk Tryd.func10 (by kernel_rfl) [((40, 0), E_sIsPath), ((41, 0), E_sPathText)] [] { lv := [(2, ⟨[0, 4], [(2, 2, false)], [(2, 4, false, false)], pVO (rCo rS (rOne rI)) (oRow1 pathR)⟩), (5, ⟨[0, 4, 5], [(2, 2, false)], [(2, 4, false, false)], pVO (rCo rS (rCo rI (rOne rI))) (oRow1 pathR)⟩), (8, ⟨[0, 4, 5, 6], [(2, 2, false)], [(2, 4, false, false)], pVO (rCo rS (rCo rI (rCo rI (rOne rI)))) (oRow1 pathR)⟩)] } ⟨ok_sIsPath, ok_sPathText, trivial⟩ (fun x => by kernel_rfl)
noncomputable def E_iParseInt : Entry := ⟨aV (rOne rS), qV (rTu (rCo rI (rOne rB))), fun (x : ByteArray) => S_iParseInt x⟩
theorem ok_iParseInt : Ok gG 42 E_iParseInt := mk Tryd.func42 (by kernel_rfl) [] [] { lv := [(5, ⟨[0, 4, 25, 26], [], [], pV (rCo rS (rCo rI (rCo rI (rOne rI))))⟩)] } trivial (fun x => by kernel_rfl)
noncomputable def E_iInRange : Entry := ⟨aV (rCo rI (rCo rI (rOne rI))), qV rB, fun (x : (Int × Int × Int)) => S_iInRange x.1 x.2.1 x.2.2⟩
theorem ok_iInRange : Ok gG 86 E_iInRange := mk Tryd.func86 (by kernel_rfl) [] [] {} trivial (fun x => by kernel_rfl)
noncomputable def E_iIsPath : Entry := ⟨aV (rOne (rAg pathR)), qV rB, fun (x : Path) => S_iIsPath x⟩
theorem ok_iIsPath : Ok gG 73 E_iIsPath := mk Tryd.func73 (by kernel_rfl) [((86, 0), E_iInRange)] [] {} ⟨ok_iInRange, trivial⟩ (fun x => by kernel_rfl)
noncomputable def E_iFormatInt : Entry := ⟨aV (rOne rI), qV rS, fun (x : Int) => S_iFormatInt x⟩
theorem ok_iFormatInt : Ok gG 47 E_iFormatInt := mk Tryd.func47 (by kernel_rfl) [((74, 0), E_strconv_Itoa)] [] {} ⟨ok_strconv_Itoa, trivial⟩ (fun x => by kernel_rfl)
noncomputable def E_iPathText : Entry := ⟨aV (rOne (rAg pathR)), qV rS, fun (x : Path) => S_iPathText x⟩
theorem ok_iPathText : Ok gG 44 E_iPathText := mk Tryd.func44 (by kernel_rfl) [((73, 0), E_iIsPath), ((47, 0), E_iFormatInt)] [] {} ⟨ok_iIsPath, ok_iFormatInt, trivial⟩ (fun x => by kernel_rfl)
noncomputable def E_leqPath : Entry := ⟨aV (rCo (rAg pathR) (rOne (rAg pathR))), qV rB, fun (x : (Path × Path)) => S_leqPath x.1 x.2⟩
theorem ok_leqPath : Ok gG 12 E_leqPath := mk Tryd.func12 (by kernel_rfl) [] [] {} trivial (fun x => by kernel_rfl)
noncomputable def E_ltoIntS : Entry := ⟨aV (rOne (rX .shr 1 iR)), qV (rX .own 1 iR), fun (x : (List Int)) => S_ltoIntS x⟩
theorem ok_ltoIntS : Ok gG 14 E_ltoIntS := mk Tryd.func14 (by kernel_rfl) [] [(3, iR)] { ro := [(7, iR)], lv := [(3, ⟨[0, 4], [(3, 7, true)], [(7, 1, true, false)], pVO (rCo (rX .shr 1 iR) (rOne rI)) (oArr1 iR)⟩)] } trivial (fun x => by kernel_rfl)
noncomputable def E_sl39Join : Entry := ⟨aV (rCo (rX .shr 1 sR) (rOne rS)), qV rS, fun (x : ((List ByteArray) × ByteArray)) => S_sl39Join x.1 x.2⟩
theorem ok_sl39Join : Ok gG 46 E_sl39Join := mk Tryd.func46 (by kernel_rfl) [] [(9, sR)] { lv := [(3, ⟨[0, 1, 5, 6], [], [], pV (rCo (rX .shr 1 sR) (rCo rS (rCo rS (rOne rI))))⟩)] } trivial (fun x => by kernel_rfl)
noncomputable def E_sFormatNumbers : Entry := ⟨aV (rOne (rX .shr 1 iR)), qV rS, fun (x : (List Int)) => S_sFormatNumbers x⟩
theorem ok_sFormatNumbers : Ok gG 13 E_sFormatNumbers := mk Tryd.func13 (by kernel_rfl) [((45, 0), E_sFormatInt), ((46, 0), E_sl39Join)] [(3, iR)] { tk := [(1, 1), (5, 0), (5, 7), (5, 8), (6, 0)], lv := [(3, ⟨[0, 3, 4], [], [], pV (rCo (rX .shr 1 iR) (rCo (rX .own 1 sR) (rOne rI)))⟩)] } ⟨ok_sFormatInt, ok_sl39Join, trivial⟩ (fun x => by kernel_rfl)
noncomputable def E_ijoined : Entry := ⟨aV (rCo (rX .shr 1 sR) (rOne rS)), qV rS, fun (x : ((List ByteArray) × ByteArray)) => S_ijoined x.1 x.2⟩
theorem ok_ijoined : Ok gG 48 E_ijoined := mk Tryd.func48 (by kernel_rfl) [((75, 0), E_strings_Join)] [] {} ⟨ok_strings_Join, trivial⟩ (fun x => by kernel_rfl)
noncomputable def E_iFormatNumbers : Entry := ⟨aV (rOne (rX .shr 1 iR)), qV rS, fun (x : (List Int)) => S_iFormatNumbers x⟩
theorem ok_iFormatNumbers : Ok gG 15 E_iFormatNumbers := mk Tryd.func15 (by kernel_rfl) [((47, 0), E_iFormatInt), ((48, 0), E_ijoined)] [(3, iR)] { tk := [(1, 1), (5, 0), (5, 4), (5, 5), (7, 0)], lv := [(3, ⟨[3, 7, 8, 9], [], [], pV (rCo (rX .own 1 sR) (rCo (rX .shr 1 iR) (rCo rI (rOne rI))))⟩)] } ⟨ok_iFormatInt, ok_ijoined, trivial⟩ (fun x => by kernel_rfl)
noncomputable def E_leqIntS : Entry := ⟨aV (rCo (rX .shr 1 iR) (rOne (rX .shr 1 iR))), qV rB, fun (x : ((List Int) × (List Int))) => S_leqIntS x.1 x.2⟩
theorem ok_leqIntS : Ok gG 16 E_leqIntS := mk Tryd.func16 (by kernel_rfl) [] [(3, iR)] { lv := [(4, ⟨[0, 1, 5], [], [], pV (rCo (rX .shr 1 iR) (rCo (rX .shr 1 iR) (rOne rI)))⟩)] } trivial (fun x => by kernel_rfl)
noncomputable def E_lFnExactFormatNumbers : Entry := ⟨aV (rOne (rX .shr 1 iR)), qV rB, fun (x : (List Int)) => S_lFnExactFormatNumbers x⟩
theorem ok_lFnExactFormatNumbers : Ok gG 4 E_lFnExactFormatNumbers := mk Tryd.func4 (by kernel_rfl) [((14, 0), E_ltoIntS), ((13, 0), E_sFormatNumbers), ((15, 0), E_iFormatNumbers), ((16, 0), E_leqIntS)] [] { tk := [(4, 2), (8, 0)] } ⟨ok_ltoIntS, ok_sFormatNumbers, ok_iFormatNumbers, ok_leqIntS, trivial⟩ (fun x => by kernel_rfl)
noncomputable def E_ltoReport : Entry := ⟨aV (rOne (rAg reportR)), qV (rAg reportR), fun (x : Report) => S_ltoReport x⟩
theorem ok_ltoReport : Ok gG 18 E_ltoReport := mk Tryd.func18 (by kernel_rfl) [] [] {} trivial (fun x => by kernel_rfl)
noncomputable def E_sFormatLights : Entry := ⟨aV (rOne (rX .shr 1 iR)), qV rS, fun (x : (List Int)) => S_sFormatLights x⟩
theorem ok_sFormatLights : Ok gG 49 E_sFormatLights := mk Tryd.func49 (by kernel_rfl) [((71, 0), E_sl1In), ((46, 0), E_sl39Join)] [(3, iR)] { tk := [(1, 1), (8, 0), (8, 3), (8, 4), (9, 0)], lv := [(3, ⟨[0, 3, 4], [], [], pV (rCo (rX .shr 1 iR) (rCo (rX .own 1 sR) (rOne rI)))⟩)] } ⟨ok_sl1In, ok_sl39Join, trivial⟩ (fun x => by kernel_rfl)
noncomputable def E_sFormatReport : Entry := ⟨aV (rOne (rAg reportR)), qV rS, fun (x : Report) => S_sFormatReport x⟩
theorem ok_sFormatReport : Ok gG 17 E_sFormatReport := mk Tryd.func17 (by kernel_rfl) [((45, 0), E_sFormatInt), ((49, 0), E_sFormatLights)] [] {} ⟨ok_sFormatInt, ok_sFormatLights, trivial⟩ (fun x => by kernel_rfl)
noncomputable def E_iFormatLights : Entry := ⟨aV (rOne (rX .shr 1 iR)), qV rS, fun (x : (List Int)) => S_iFormatLights x⟩
theorem ok_iFormatLights : Ok gG 50 E_iFormatLights := mk Tryd.func50 (by kernel_rfl) [((48, 0), E_ijoined)] [(3, iR)] { tk := [(1, 1), (13, 0), (13, 3), (13, 4), (15, 0)], lv := [(3, ⟨[3, 8, 9, 10], [], [], pV (rCo (rX .own 1 sR) (rCo (rX .shr 1 iR) (rCo rI (rOne rI))))⟩)] } ⟨ok_ijoined, trivial⟩ (fun x => by kernel_rfl)
noncomputable def E_iFormatReport : Entry := ⟨aV (rOne (rAg reportR)), qV rS, fun (x : Report) => S_iFormatReport x⟩
theorem ok_iFormatReport : Ok gG 19 E_iFormatReport := mk Tryd.func19 (by kernel_rfl) [((47, 0), E_iFormatInt), ((50, 0), E_iFormatLights)] [] {} ⟨ok_iFormatInt, ok_iFormatLights, trivial⟩ (fun x => by kernel_rfl)
noncomputable def E_lFnExactFormatReport : Entry := ⟨aV (rOne (rAg reportR)), qV rB, fun (x : Report) => S_lFnExactFormatReport x⟩
theorem ok_lFnExactFormatReport : Ok gG 5 E_lFnExactFormatReport := mk Tryd.func5 (by kernel_rfl) [((18, 0), E_ltoReport), ((17, 0), E_sFormatReport), ((19, 0), E_iFormatReport)] [] {} ⟨ok_ltoReport, ok_sFormatReport, ok_iFormatReport, trivial⟩ (fun x => by kernel_rfl)
noncomputable def E_lszPathS : Entry := ⟨aV (rCo (rX .shr 4 pathR) (rOne rI)), qV rI, fun (x : ((List Path) × Int)) => S_lszPathS x.1 x.2⟩
theorem ok_lszPathS : Ok gG 20 E_lszPathS := mk Tryd.func20 (by kernel_rfl) [] [] {} trivial (fun x => by kernel_rfl)
noncomputable def E_ltoPath : Entry := ⟨aV (rOne (rAg pathR)), qV (rAg pathR), fun (x : Path) => S_ltoPath x⟩
theorem ok_ltoPath : Ok gG 51 E_ltoPath := mk Tryd.func51 (by kernel_rfl) [] [] {} trivial (fun x => by kernel_rfl)
noncomputable def E_ltoPathS : Entry := ⟨aV (rOne (rX .shr 4 pathR)), qV (rX .own 4 pathR), fun (x : (List Path)) => S_ltoPathS x⟩
theorem ok_ltoPathS : Ok gG 22 E_ltoPathS := mk Tryd.func22 (by kernel_rfl) [((51, 0), E_ltoPath)] [(88, pathR)] { ro := [(7, pathR)], lv := [(3, ⟨[0, 4], [(3, 7, true)], [(7, 4, true, false)], pVO (rCo (rX .shr 4 pathR) (rOne rI)) (oArr1 pathR)⟩)] } ⟨ok_ltoPath, trivial⟩ (fun x => by kernel_rfl)
noncomputable def E_sFormatPaths : Entry := ⟨aV (rOne (rX .shr 4 pathR)), qV rS, fun (x : (List Path)) => S_sFormatPaths x⟩
theorem ok_sFormatPaths : Ok gG 21 E_sFormatPaths := mk Tryd.func21 (by kernel_rfl) [((41, 0), E_sPathText), ((46, 0), E_sl39Join)] [(23, pathR)] { tk := [(1, 1), (5, 0), (5, 7), (5, 8), (6, 0)], lv := [(3, ⟨[0, 3, 4], [], [], pV (rCo (rX .shr 4 pathR) (rCo (rX .own 1 sR) (rOne rI)))⟩)] } ⟨ok_sPathText, ok_sl39Join, trivial⟩ (fun x => by kernel_rfl)
noncomputable def E_iFormatPaths : Entry := ⟨aV (rOne (rX .shr 4 pathR)), qV rS, fun (x : (List Path)) => S_iFormatPaths x⟩
theorem ok_iFormatPaths : Ok gG 23 E_iFormatPaths := mk Tryd.func23 (by kernel_rfl) [((44, 0), E_iPathText), ((48, 0), E_ijoined)] [(23, pathR)] { tk := [(1, 1), (5, 0), (5, 4), (5, 5), (7, 0)], lv := [(3, ⟨[3, 7, 8, 9], [], [], pV (rCo (rX .own 1 sR) (rCo (rX .shr 4 pathR) (rCo rI (rOne rI))))⟩)] } ⟨ok_iPathText, ok_ijoined, trivial⟩ (fun x => by kernel_rfl)
noncomputable def E_leqPathS : Entry := ⟨aV (rCo (rX .shr 4 pathR) (rOne (rX .shr 4 pathR))), qV rB, fun (x : ((List Path) × (List Path))) => S_leqPathS x.1 x.2⟩
theorem ok_leqPathS : Ok gG 24 E_leqPathS := mk Tryd.func24 (by kernel_rfl) [((12, 0), E_leqPath)] [(23, pathR)] { lv := [(4, ⟨[0, 1, 5], [], [], pV (rCo (rX .shr 4 pathR) (rCo (rX .shr 4 pathR) (rOne rI)))⟩)] } ⟨ok_leqPath, trivial⟩ (fun x => by kernel_rfl)
noncomputable def E_lFnExactFormatPaths : Entry := ⟨aV (rOne (rX .shr 4 pathR)), qV rB, fun (x : (List Path)) => S_lFnExactFormatPaths x⟩
theorem ok_lFnExactFormatPaths : Ok gG 6 E_lFnExactFormatPaths := mk Tryd.func6 (by kernel_rfl) [((20, 0), E_lszPathS), ((22, 0), E_ltoPathS), ((21, 0), E_sFormatPaths), ((23, 0), E_iFormatPaths), ((24, 0), E_leqPathS)] [] { tk := [(6, 2), (10, 0)] } ⟨ok_lszPathS, ok_ltoPathS, ok_sFormatPaths, ok_iFormatPaths, ok_leqPathS, trivial⟩ (fun x => by kernel_rfl)
noncomputable def E_lszIntS : Entry := ⟨aV (rCo (rX .shr 1 iR) (rOne rI)), qV rI, fun (x : ((List Int) × Int)) => S_lszIntS x.1 x.2⟩
theorem ok_lszIntS : Ok gG 52 E_lszIntS := mk Tryd.func52 (by kernel_rfl) [] [] {} trivial (fun x => by kernel_rfl)
noncomputable def E_lszControl : Entry := ⟨aV (rCo (rAg (controlR .shr .shr)) (rOne rI)), qV rI, fun (x : (Control × Int)) => S_lszControl x.1 x.2⟩
theorem ok_lszControl : Ok gG 25 E_lszControl := mk Tryd.func25 (by kernel_rfl) [((52, 0), E_lszIntS)] [] {} ⟨ok_lszIntS, trivial⟩ (fun x => by kernel_rfl)
noncomputable def E_ltoControl : Entry := ⟨aV (rOne (rAg (controlR .shr .shr))), qV (rAg (controlR .own .own)), fun (x : Control) => S_ltoControl x⟩
theorem ok_ltoControl : Ok gG 27 E_ltoControl := mk Tryd.func27 (by kernel_rfl) [((14, 0), E_ltoIntS)] [] { tk := [(2, 4), (4, 4), (6, 1)], mo := [(6, 0)] } ⟨ok_ltoIntS, trivial⟩ (fun x => by kernel_rfl)
noncomputable def E_sFormatControl : Entry := ⟨aV (rOne (rAg (controlR .shr .shr))), qV rS, fun (x : Control) => S_sFormatControl x⟩
theorem ok_sFormatControl : Ok gG 26 E_sFormatControl := mk Tryd.func26 (by kernel_rfl) [((13, 0), E_sFormatNumbers), ((45, 0), E_sFormatInt)] [] {} ⟨ok_sFormatNumbers, ok_sFormatInt, trivial⟩ (fun x => by kernel_rfl)
noncomputable def E_iFormatControl : Entry := ⟨aV (rOne (rAg (controlR .shr .shr))), qV rS, fun (x : Control) => S_iFormatControl x⟩
theorem ok_iFormatControl : Ok gG 28 E_iFormatControl := mk Tryd.func28 (by kernel_rfl) [((15, 0), E_iFormatNumbers), ((47, 0), E_iFormatInt)] [] {} ⟨ok_iFormatNumbers, ok_iFormatInt, trivial⟩ (fun x => by kernel_rfl)
noncomputable def E_leqControl : Entry := ⟨aV (rCo (rAg (controlR .shr .shr)) (rOne (rAg (controlR .shr .shr)))), qV rB, fun (x : (Control × Control)) => S_leqControl x.1 x.2⟩
theorem ok_leqControl : Ok gG 29 E_leqControl := mk Tryd.func29 (by kernel_rfl) [((16, 0), E_leqIntS)] [] {} ⟨ok_leqIntS, trivial⟩ (fun x => by kernel_rfl)
noncomputable def E_lFnExactFormatControl : Entry := ⟨aV (rOne (rAg (controlR .shr .shr))), qV rB, fun (x : Control) => S_lFnExactFormatControl x⟩
theorem ok_lFnExactFormatControl : Ok gG 7 E_lFnExactFormatControl := mk Tryd.func7 (by kernel_rfl) [((25, 0), E_lszControl), ((27, 0), E_ltoControl), ((26, 0), E_sFormatControl), ((28, 0), E_iFormatControl), ((29, 0), E_leqControl)] [] { tk := [(6, 3)] } ⟨ok_lszControl, ok_ltoControl, ok_sFormatControl, ok_iFormatControl, ok_leqControl, trivial⟩ (fun x => by kernel_rfl)
noncomputable def E_lszPart : Entry := ⟨aV (rCo (rAg (partR .shr)) (rOne rI)), qV rI, fun (x : (Part × Int)) => S_lszPart x.1 x.2⟩
theorem ok_lszPart : Ok gG 53 E_lszPart := mk Tryd.func53 (by kernel_rfl) [((52, 0), E_lszIntS)] [] {} ⟨ok_lszIntS, trivial⟩ (fun x => by kernel_rfl)
noncomputable def E_lszPartS : Entry := ⟨aV (rCo (rX .shr 2 (partR .shr)) (rOne rI)), qV rI, fun (x : ((List Part) × Int)) => S_lszPartS x.1 x.2⟩
theorem ok_lszPartS : Ok gG 30 E_lszPartS := mk Tryd.func30 (by kernel_rfl) [((53, 0), E_lszPart)] [(92, (partR .shr))] { lv := [(5, ⟨[0, 1, 5], [], [], pV (rCo (rX .shr 2 (partR .shr)) (rCo rI (rOne rI)))⟩)] } ⟨ok_lszPart, trivial⟩ (fun x => by kernel_rfl)
noncomputable def E_ltoPart : Entry := ⟨aV (rOne (rAg (partR .shr))), qV (rAg (partR .own)), fun (x : Part) => S_ltoPart x⟩
theorem ok_ltoPart : Ok gG 54 E_ltoPart := mk Tryd.func54 (by kernel_rfl) [((14, 0), E_ltoIntS)] [] { tk := [(2, 4), (4, 1)], mo := [(4, 0)] } ⟨ok_ltoIntS, trivial⟩ (fun x => by kernel_rfl)
noncomputable def E_ltoPartS : Entry := ⟨aV (rOne (rX .shr 2 (partR .shr))), qV (rX .own 2 (partR .own)), fun (x : (List Part)) => S_ltoPartS x⟩
theorem ok_ltoPartS : Ok gG 32 E_ltoPartS := mk Tryd.func32 (by kernel_rfl) [((54, 0), E_ltoPart)] [(92, (partR .shr))] { tk := [(5, 8)], ro := [(7, (partR .own))], lv := [(3, ⟨[0, 4], [(3, 7, true)], [(7, 2, true, false)], pVO (rCo (rX .shr 2 (partR .shr)) (rOne rI)) (oArr1 (partR .own))⟩)] } ⟨ok_ltoPart, trivial⟩ (fun x => by kernel_rfl)
noncomputable def E_lszWantS : Entry := ⟨aV (rCo (rX .shr 2 wantR) (rOne rI)), qV rI, fun (x : ((List Want) × Int)) => S_lszWantS x.1 x.2⟩
theorem ok_lszWantS : Ok gG 56 E_lszWantS := mk Tryd.func56 (by kernel_rfl) [] [] {} trivial (fun x => by kernel_rfl)
noncomputable def E_lszLampS : Entry := ⟨aV (rCo (rX .shr 3 lampR) (rOne rI)), qV rI, fun (x : ((List Lamp) × Int)) => S_lszLampS x.1 x.2⟩
theorem ok_lszLampS : Ok gG 57 E_lszLampS := mk Tryd.func57 (by kernel_rfl) [] [] {} trivial (fun x => by kernel_rfl)
noncomputable def E_lszEntry : Entry := ⟨aV (rCo (rAg (noteR .shr)) (rOne rI)), qV rI, fun (x : (Note × Int)) => S_lszEntry x.1 x.2⟩
theorem ok_lszEntry : Ok gG 76 E_lszEntry := mk Tryd.func76 (by kernel_rfl) [((52, 0), E_lszIntS)] [] {} ⟨ok_lszIntS, trivial⟩ (fun x => by kernel_rfl)
noncomputable def E_lszEntryS : Entry := ⟨aV (rCo (rX .shr 3 (noteR .shr)) (rOne rI)), qV rI, fun (x : ((List Note) × Int)) => S_lszEntryS x.1 x.2⟩
theorem ok_lszEntryS : Ok gG 58 E_lszEntryS := mk Tryd.func58 (by kernel_rfl) [((76, 0), E_lszEntry)] [(112, (noteR .shr))] { lv := [(5, ⟨[0, 1, 5], [], [], pV (rCo (rX .shr 3 (noteR .shr)) (rCo rI (rOne rI)))⟩)] } ⟨ok_lszEntry, trivial⟩ (fun x => by kernel_rfl)
noncomputable def E_lszTown : Entry := ⟨aV (rCo (rAg (townR .shr .shr .shr .shr .shr .shr .shr)) (rOne rI)), qV rI, fun (x : (Town × Int)) => S_lszTown x.1 x.2⟩
theorem ok_lszTown : Ok gG 35 E_lszTown := mk Tryd.func35 (by kernel_rfl) [((20, 0), E_lszPathS), ((25, 0), E_lszControl), ((56, 0), E_lszWantS), ((57, 0), E_lszLampS), ((58, 0), E_lszEntryS)] [] {} ⟨ok_lszPathS, ok_lszControl, ok_lszWantS, ok_lszLampS, ok_lszEntryS, trivial⟩ (fun x => by kernel_rfl)
noncomputable def E_ltoWant : Entry := ⟨aV (rOne (rAg wantR)), qV (rAg wantR), fun (x : Want) => S_ltoWant x⟩
theorem ok_ltoWant : Ok gG 78 E_ltoWant := mk Tryd.func78 (by kernel_rfl) [] [] {} trivial (fun x => by kernel_rfl)
noncomputable def E_ltoWantS : Entry := ⟨aV (rOne (rX .shr 2 wantR)), qV (rX .own 2 wantR), fun (x : (List Want)) => S_ltoWantS x⟩
theorem ok_ltoWantS : Ok gG 61 E_ltoWantS := mk Tryd.func61 (by kernel_rfl) [((78, 0), E_ltoWant)] [(117, wantR)] { ro := [(7, wantR)], lv := [(3, ⟨[0, 4], [(3, 7, true)], [(7, 2, true, false)], pVO (rCo (rX .shr 2 wantR) (rOne rI)) (oArr1 wantR)⟩)] } ⟨ok_ltoWant, trivial⟩ (fun x => by kernel_rfl)
noncomputable def E_ltoPrio : Entry := ⟨aV (rOne (rAg prioR)), qV (rAg prioR), fun (x : Prio) => S_ltoPrio x⟩
theorem ok_ltoPrio : Ok gG 62 E_ltoPrio := mk Tryd.func62 (by kernel_rfl) [] [] {} trivial (fun x => by kernel_rfl)
noncomputable def E_ltoLamp : Entry := ⟨aV (rOne (rAg lampR)), qV (rAg lampR), fun (x : Lamp) => S_ltoLamp x⟩
theorem ok_ltoLamp : Ok gG 79 E_ltoLamp := mk Tryd.func79 (by kernel_rfl) [] [] {} trivial (fun x => by kernel_rfl)
noncomputable def E_ltoLampS : Entry := ⟨aV (rOne (rX .shr 3 lampR)), qV (rX .own 3 lampR), fun (x : (List Lamp)) => S_ltoLampS x⟩
theorem ok_ltoLampS : Ok gG 63 E_ltoLampS := mk Tryd.func63 (by kernel_rfl) [((79, 0), E_ltoLamp)] [(121, lampR)] { ro := [(7, lampR)], lv := [(3, ⟨[0, 4], [(3, 7, true)], [(7, 3, true, false)], pVO (rCo (rX .shr 3 lampR) (rOne rI)) (oArr1 lampR)⟩)] } ⟨ok_ltoLamp, trivial⟩ (fun x => by kernel_rfl)
noncomputable def E_ltoEntry : Entry := ⟨aV (rOne (rAg (noteR .shr))), qV (rAg (noteR .own)), fun (x : Note) => S_ltoEntry x⟩
theorem ok_ltoEntry : Ok gG 80 E_ltoEntry := mk Tryd.func80 (by kernel_rfl) [((14, 0), E_ltoIntS)] [] { tk := [(3, 4), (5, 1)], mo := [(5, 0)] } ⟨ok_ltoIntS, trivial⟩ (fun x => by kernel_rfl)
noncomputable def E_ltoEntryS : Entry := ⟨aV (rOne (rX .shr 3 (noteR .shr))), qV (rX .own 3 (noteR .own)), fun (x : (List Note)) => S_ltoEntryS x⟩
theorem ok_ltoEntryS : Ok gG 64 E_ltoEntryS := mk Tryd.func64 (by kernel_rfl) [((80, 0), E_ltoEntry)] [(112, (noteR .shr))] { tk := [(5, 8)], ro := [(7, (noteR .own))], lv := [(3, ⟨[0, 4], [(3, 7, true)], [(7, 3, true, false)], pVO (rCo (rX .shr 3 (noteR .shr)) (rOne rI)) (oArr1 (noteR .own))⟩)] } ⟨ok_ltoEntry, trivial⟩ (fun x => by kernel_rfl)
noncomputable def E_ltoTown : Entry := ⟨aV (rOne (rAg (townR .shr .shr .shr .shr .shr .shr .shr))), qV (rAg (townR .own .own .own .own .own .own .own)), fun (x : Town) => S_ltoTown x⟩
theorem ok_ltoTown : Ok gG 37 E_ltoTown := mk Tryd.func37 (by kernel_rfl) [((22, 0), E_ltoPathS), ((27, 0), E_ltoControl), ((61, 0), E_ltoWantS), ((62, 0), E_ltoPrio), ((63, 0), E_ltoLampS), ((64, 0), E_ltoEntryS)] [] { tk := [(2, 4), (3, 4), (4, 4), (6, 4), (8, 4), (11, 1)], mo := [(11, 0)] } ⟨ok_ltoPathS, ok_ltoControl, ok_ltoWantS, ok_ltoPrio, ok_ltoLampS, ok_ltoEntryS, trivial⟩ (fun x => by kernel_rfl)
noncomputable def E_sFindPath : Entry := ⟨aV (rCo (rX .shr 4 pathR) (rOne rI)), qV rI, fun (x : ((List Path) × Int)) => S_sFindPath x.1 x.2⟩
theorem ok_sFindPath : Ok gG 98 E_sFindPath := mk Tryd.func98 (by kernel_rfl) [] [(23, pathR)] { lv := [(2, ⟨[0, 1, 5], [], [], pV (rCo (rX .shr 4 pathR) (rCo rI (rOne rI)))⟩)] } trivial (fun x => by kernel_rfl)
noncomputable def E_sArePaths : Entry := ⟨aV (rOne (rX .shr 4 pathR)), qV rB, fun (x : (List Path)) => S_sArePaths x⟩
theorem ok_sArePaths : Ok gG 99 E_sArePaths := mk Tryd.func99 (by kernel_rfl) [((40, 0), E_sIsPath)] [(23, pathR)] { lv := [(2, ⟨[0, 3], [], [], pV (rCo (rX .shr 4 pathR) (rOne rI))⟩)] } ⟨ok_sIsPath, trivial⟩ (fun x => by kernel_rfl)
noncomputable def E_sAreLamps : Entry := ⟨aV (rCo (rX .shr 4 pathR) (rOne (rX .shr 3 lampR))), qV rB, fun (x : ((List Path) × (List Lamp))) => S_sAreLamps x.1 x.2⟩
theorem ok_sAreLamps : Ok gG 91 E_sAreLamps := mk Tryd.func91 (by kernel_rfl) [((98, 0), E_sFindPath), ((71, 0), E_sl1In), ((99, 0), E_sArePaths)] [(119, lampR)] { lv := [(2, ⟨[0, 1, 5], [], [], pV (rCo (rX .shr 4 pathR) (rCo (rX .shr 3 lampR) (rOne rI)))⟩), (7, ⟨[0, 1, 5, 6], [], [], pV (rCo (rX .shr 4 pathR) (rCo (rX .shr 3 lampR) (rCo rI (rOne rI))))⟩)] } ⟨ok_sFindPath, ok_sl1In, ok_sArePaths, trivial⟩ (fun x => by kernel_rfl)
noncomputable def E_sModeFor : Entry := ⟨aV (rCo (rX .shr 4 pathR) (rCo (rX .shr 3 lampR) (rOne rB))), qV rI, fun (x : ((List Path) × (List Lamp) × Bool)) => S_sModeFor x.1 x.2.1 x.2.2⟩
theorem ok_sModeFor : Ok gG 77 E_sModeFor := mk Tryd.func77 (by kernel_rfl) [((91, 0), E_sAreLamps)] [(119, lampR)] { lv := [(4, ⟨[0, 1, 7], [], [], pV (rCo (rX .shr 4 pathR) (rCo (rX .shr 3 lampR) (rOne rI)))⟩)] } ⟨ok_sAreLamps, trivial⟩ (fun x => by kernel_rfl)
noncomputable def E_sModeOf : Entry := ⟨aV (rOne (rAg (townR .shr .shr .shr .shr .shr .shr .shr))), qV rI, fun (x : Town) => S_sModeOf x⟩
theorem ok_sModeOf : Ok gG 60 E_sModeOf := mk Tryd.func60 (by kernel_rfl) [((77, 0), E_sModeFor)] [] {} ⟨ok_sModeFor, trivial⟩ (fun x => by kernel_rfl)
noncomputable def E_sModeName : Entry := ⟨aV (rOne rI), qV rS, fun (x : Int) => S_sModeName x⟩
theorem ok_sModeName : Ok gG 59 E_sModeName := mk Tryd.func59 (by kernel_rfl) [((71, 0), E_sl1In)] [(9, sR)] {} ⟨ok_sl1In, trivial⟩ (fun x => by kernel_rfl)
noncomputable def E_sFormatTown : Entry := ⟨aV (rOne (rAg (townR .shr .shr .shr .shr .shr .shr .shr))), qV rS, fun (x : Town) => S_sFormatTown x⟩
theorem ok_sFormatTown : Ok gG 36 E_sFormatTown := mk Tryd.func36 (by kernel_rfl) [((45, 0), E_sFormatInt), ((60, 0), E_sModeOf), ((59, 0), E_sModeName), ((13, 0), E_sFormatNumbers)] [] {} ⟨ok_sFormatInt, ok_sModeOf, ok_sModeName, ok_sFormatNumbers, trivial⟩ (fun x => by kernel_rfl)
noncomputable def E_iArePaths : Entry := ⟨aV (rOne (rX .shr 4 pathR)), qV rB, fun (x : (List Path)) => S_iArePaths x⟩
theorem ok_iArePaths : Ok gG 100 E_iArePaths := mk Tryd.func100 (by kernel_rfl) [((73, 0), E_iIsPath)] [(23, pathR)] { lv := [(4, ⟨[0, 8, 9, 10], [], [], pV (rCo (rX .shr 4 pathR) (rCo (rX .shr 4 pathR) (rCo rI (rOne rI))))⟩)] } ⟨ok_iIsPath, trivial⟩ (fun x => by kernel_rfl)
noncomputable def E_iFindPath_1 : Entry := ⟨aV (rCo (rAg pathR) (rOne (rRp iR))), qV rB, fun (x : (Path × Int)) => S_iFindPath_1 x.1 x.2⟩
theorem ok_iFindPath_1 : Ok gG 110 E_iFindPath_1 := mk Tryd.func110 (by kernel_rfl) [] [] {} trivial (fun x => by kernel_rfl)
noncomputable def E_slices_IndexFunc_loop_example_g03006_impl_Path_loop_example_g03006_impl_Path : Entry := ⟨aV (rCo (rX .shr 4 pathR) (rOne (rFn 110 (rOne (rRp iR))))), qV rI, fun (x : ((List Path) × Int)) => S_slices_IndexFunc_loop_example_g03006_impl_Path_loop_example_g03006_impl_Path x.1 x.2⟩
theorem ok_slices_IndexFunc_loop_example_g03006_impl_Path_loop_example_g03006_impl_Path : Ok gG 109 E_slices_IndexFunc_loop_example_g03006_impl_Path_loop_example_g03006_impl_Path := mk Tryd.func109 (by kernel_rfl) [((110, 0), E_iFindPath_1)] [(23, pathR)] { lv := [(2, ⟨[0, 1, 7, 8], [], [], pV (rCo (rX .shr 4 pathR) (rCo (rFn 110 (rOne (rRp iR))) (rCo rI (rOne rI))))⟩)] } ⟨ok_iFindPath_1, trivial⟩ (fun x => by kernel_rfl)
noncomputable def E_iFindPath : Entry := ⟨aV (rCo (rX .shr 4 pathR) (rOne rI)), qV rI, fun (x : ((List Path) × Int)) => S_iFindPath x.1 x.2⟩
theorem ok_iFindPath : Ok gG 101 E_iFindPath := mk Tryd.func101 (by kernel_rfl) [((109, 0), E_slices_IndexFunc_loop_example_g03006_impl_Path_loop_example_g03006_impl_Path)] [] {} ⟨ok_slices_IndexFunc_loop_example_g03006_impl_Path_loop_example_g03006_impl_Path, trivial⟩ (fun x => by kernel_rfl)
noncomputable def E_iAreLamps : Entry := ⟨aV (rCo (rX .shr 4 pathR) (rOne (rX .shr 3 lampR))), qV rB, fun (x : ((List Path) × (List Lamp))) => S_iAreLamps x.1 x.2⟩
theorem ok_iAreLamps : Ok gG 92 E_iAreLamps := mk Tryd.func92 (by kernel_rfl) [((100, 0), E_iArePaths), ((101, 0), E_iFindPath)] [(119, lampR)] { lv := [(4, ⟨[0, 1, 12, 13, 14], [], [], pV (rCo (rX .shr 4 pathR) (rCo (rX .shr 3 lampR) (rCo (rX .shr 3 lampR) (rCo rI (rOne rI)))))⟩), (9, ⟨[0, 1, 12, 13, 14, 36, 37, 38], [(6, 6, false)], [(6, 3, false, false)], pVO (rCo (rX .shr 4 pathR) (rCo (rX .shr 3 lampR) (rCo (rX .shr 3 lampR) (rCo rI (rCo rI (rCo (rX .shr 3 lampR) (rCo rI (rOne rI)))))))) (oRow1 lampR)⟩)] } ⟨ok_iArePaths, ok_iFindPath, trivial⟩ (fun x => by kernel_rfl)
noncomputable def E_iModeFor_1 : Entry := ⟨aV (rOne (rAg lampR)), qV rB, fun (x : Lamp) => S_iModeFor_1 x⟩
theorem ok_iModeFor_1 : Ok gG 94 E_iModeFor_1 := mk Tryd.func94 (by kernel_rfl) [] [] {} trivial (fun x => by kernel_rfl)
noncomputable def E_slices_IndexFunc_loop_example_g03006_impl_Lamp_loop_example_g03006_impl_Lamp : Entry := ⟨aV (rCo (rX .shr 3 lampR) (rOne (rFn 94 rNil))), qV rI, fun (x : ((List Lamp) × Unit)) => S_slices_IndexFunc_loop_example_g03006_impl_Lamp_loop_example_g03006_impl_Lamp x.1⟩
theorem ok_slices_IndexFunc_loop_example_g03006_impl_Lamp_loop_example_g03006_impl_Lamp : Ok gG 102 E_slices_IndexFunc_loop_example_g03006_impl_Lamp_loop_example_g03006_impl_Lamp := mk Tryd.func102 (by kernel_rfl) [((94, 0), E_iModeFor_1)] [(119, lampR)] { lv := [(2, ⟨[0, 1, 7, 8], [], [], pV (rCo (rX .shr 3 lampR) (rCo (rFn 94 rNil) (rCo rI (rOne rI))))⟩)] } ⟨ok_iModeFor_1, trivial⟩ (fun x => by kernel_rfl)
noncomputable def E_slices_ContainsFunc_loop_example_g03006_impl_Lamp_loop_example_g03006_impl_Lamp : Entry := ⟨aV (rCo (rX .shr 3 lampR) (rOne (rFn 94 rNil))), qV rB, fun (x : ((List Lamp) × Unit)) => S_slices_ContainsFunc_loop_example_g03006_impl_Lamp_loop_example_g03006_impl_Lamp x.1⟩
theorem ok_slices_ContainsFunc_loop_example_g03006_impl_Lamp_loop_example_g03006_impl_Lamp : Ok gG 93 E_slices_ContainsFunc_loop_example_g03006_impl_Lamp_loop_example_g03006_impl_Lamp := mk Tryd.func93 (by kernel_rfl) [((102, 0), E_slices_IndexFunc_loop_example_g03006_impl_Lamp_loop_example_g03006_impl_Lamp)] [] {} ⟨ok_slices_IndexFunc_loop_example_g03006_impl_Lamp_loop_example_g03006_impl_Lamp, trivial⟩ (fun x => by kernel_rfl)
noncomputable def E_iModeFor : Entry := ⟨aV (rCo (rX .shr 4 pathR) (rCo (rX .shr 3 lampR) (rOne rB))), qV rI, fun (x : ((List Path) × (List Lamp) × Bool)) => S_iModeFor x.1 x.2.1 x.2.2⟩
theorem ok_iModeFor : Ok gG 81 E_iModeFor := mk Tryd.func81 (by kernel_rfl) [((92, 0), E_iAreLamps), ((93, 0), E_slices_ContainsFunc_loop_example_g03006_impl_Lamp_loop_example_g03006_impl_Lamp)] [] {} ⟨ok_iAreLamps, ok_slices_ContainsFunc_loop_example_g03006_impl_Lamp_loop_example_g03006_impl_Lamp, trivial⟩ (fun x => by kernel_rfl)
noncomputable def E_iModeOf : Entry := ⟨aV (rOne (rAg (townR .shr .shr .shr .shr .shr .shr .shr))), qV rI, fun (x : Town) => S_iModeOf x⟩
theorem ok_iModeOf : Ok gG 66 E_iModeOf := mk Tryd.func66 (by kernel_rfl) [((81, 0), E_iModeFor)] [] {} ⟨ok_iModeFor, trivial⟩ (fun x => by kernel_rfl)
noncomputable def E_iModeName : Entry := ⟨aV (rOne rI), qV rS, fun (x : Int) => S_iModeName x⟩
theorem ok_iModeName : Ok gG 65 E_iModeName := mk Tryd.func65 (by kernel_rfl) [] [] {} trivial (fun x => by kernel_rfl)
noncomputable def E_iFormatTown : Entry := ⟨aV (rOne (rAg (townR .shr .shr .shr .shr .shr .shr .shr))), qV rS, fun (x : Town) => S_iFormatTown x⟩
theorem ok_iFormatTown : Ok gG 38 E_iFormatTown := mk Tryd.func38 (by kernel_rfl) [((47, 0), E_iFormatInt), ((66, 0), E_iModeOf), ((65, 0), E_iModeName), ((15, 0), E_iFormatNumbers)] [] {} ⟨ok_iFormatInt, ok_iModeOf, ok_iModeName, ok_iFormatNumbers, trivial⟩ (fun x => by kernel_rfl)
noncomputable def E_leqWant : Entry := ⟨aV (rCo (rAg wantR) (rOne (rAg wantR))), qV rB, fun (x : (Want × Want)) => S_leqWant x.1 x.2⟩
theorem ok_leqWant : Ok gG 82 E_leqWant := mk Tryd.func82 (by kernel_rfl) [] [] {} trivial (fun x => by kernel_rfl)
noncomputable def E_leqWantS : Entry := ⟨aV (rCo (rX .shr 2 wantR) (rOne (rX .shr 2 wantR))), qV rB, fun (x : ((List Want) × (List Want))) => S_leqWantS x.1 x.2⟩
theorem ok_leqWantS : Ok gG 67 E_leqWantS := mk Tryd.func67 (by kernel_rfl) [((82, 0), E_leqWant)] [(115, wantR)] { lv := [(4, ⟨[0, 1, 5], [], [], pV (rCo (rX .shr 2 wantR) (rCo (rX .shr 2 wantR) (rOne rI)))⟩)] } ⟨ok_leqWant, trivial⟩ (fun x => by kernel_rfl)
noncomputable def E_leqPrio : Entry := ⟨aV (rCo (rAg prioR) (rOne (rAg prioR))), qV rB, fun (x : (Prio × Prio)) => S_leqPrio x.1 x.2⟩
theorem ok_leqPrio : Ok gG 68 E_leqPrio := mk Tryd.func68 (by kernel_rfl) [] [] {} trivial (fun x => by kernel_rfl)
noncomputable def E_leqLamp : Entry := ⟨aV (rCo (rAg lampR) (rOne (rAg lampR))), qV rB, fun (x : (Lamp × Lamp)) => S_leqLamp x.1 x.2⟩
theorem ok_leqLamp : Ok gG 83 E_leqLamp := mk Tryd.func83 (by kernel_rfl) [] [] {} trivial (fun x => by kernel_rfl)
noncomputable def E_leqLampS : Entry := ⟨aV (rCo (rX .shr 3 lampR) (rOne (rX .shr 3 lampR))), qV rB, fun (x : ((List Lamp) × (List Lamp))) => S_leqLampS x.1 x.2⟩
theorem ok_leqLampS : Ok gG 69 E_leqLampS := mk Tryd.func69 (by kernel_rfl) [((83, 0), E_leqLamp)] [(119, lampR)] { lv := [(4, ⟨[0, 1, 5], [], [], pV (rCo (rX .shr 3 lampR) (rCo (rX .shr 3 lampR) (rOne rI)))⟩)] } ⟨ok_leqLamp, trivial⟩ (fun x => by kernel_rfl)
noncomputable def E_leqEntry : Entry := ⟨aV (rCo (rAg (noteR .shr)) (rOne (rAg (noteR .shr)))), qV rB, fun (x : (Note × Note)) => S_leqEntry x.1 x.2⟩
theorem ok_leqEntry : Ok gG 84 E_leqEntry := mk Tryd.func84 (by kernel_rfl) [((16, 0), E_leqIntS)] [] {} ⟨ok_leqIntS, trivial⟩ (fun x => by kernel_rfl)
noncomputable def E_leqEntryS : Entry := ⟨aV (rCo (rX .shr 3 (noteR .shr)) (rOne (rX .shr 3 (noteR .shr)))), qV rB, fun (x : ((List Note) × (List Note))) => S_leqEntryS x.1 x.2⟩
theorem ok_leqEntryS : Ok gG 70 E_leqEntryS := mk Tryd.func70 (by kernel_rfl) [((84, 0), E_leqEntry)] [(122, (noteR .shr))] { lv := [(4, ⟨[0, 1, 5], [], [], pV (rCo (rX .shr 3 (noteR .shr)) (rCo (rX .shr 3 (noteR .shr)) (rOne rI)))⟩)] } ⟨ok_leqEntry, trivial⟩ (fun x => by kernel_rfl)
noncomputable def E_leqTown : Entry := ⟨aV (rCo (rAg (townR .shr .shr .shr .shr .shr .shr .shr)) (rOne (rAg (townR .shr .shr .shr .shr .shr .shr .shr)))), qV rB, fun (x : (Town × Town)) => S_leqTown x.1 x.2⟩
theorem ok_leqTown : Ok gG 39 E_leqTown := mk Tryd.func39 (by kernel_rfl) [((24, 0), E_leqPathS), ((29, 0), E_leqControl), ((67, 0), E_leqWantS), ((68, 0), E_leqPrio), ((69, 0), E_leqLampS), ((70, 0), E_leqEntryS)] [] {} ⟨ok_leqPathS, ok_leqControl, ok_leqWantS, ok_leqPrio, ok_leqLampS, ok_leqEntryS, trivial⟩ (fun x => by kernel_rfl)
noncomputable def E_lFnExactFormatTown : Entry := ⟨aV (rOne (rAg (townR .shr .shr .shr .shr .shr .shr .shr))), qV rB, fun (x : Town) => S_lFnExactFormatTown x⟩
theorem ok_lFnExactFormatTown : Ok gG 9 E_lFnExactFormatTown := mk Tryd.func9 (by kernel_rfl) [((35, 0), E_lszTown), ((37, 0), E_ltoTown), ((36, 0), E_sFormatTown), ((38, 0), E_iFormatTown), ((39, 0), E_leqTown)] [] { tk := [(6, 3)] } ⟨ok_lszTown, ok_ltoTown, ok_sFormatTown, ok_iFormatTown, ok_leqTown, trivial⟩ (fun x => by kernel_rfl)
end Go.Proofs.YtmcfebdgbcaimaaDoor
