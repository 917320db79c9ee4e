/- Part of the proof: see the last text of the claim. -/
import Derived.Test.YteaoohmablanhaaDoorSh5
import Derived.KernelRfl
import Derived.Test.YteaoohmablanhaaDoorRows
set_option linter.all false
namespace Go.Proofs.YteaoohmablanhaaDoor
open Go.Fx Go.Sh
set_option maxRecDepth 100000
set_option linter.unusedSectionVars false
def emS : Value := .string ⟨#[]⟩
def tab : List (Nat × TD) := [(3, .sc (.int .i64 0)),
  (4, .sc (.bool false)),
  (5, .sc (.int .u8 0)),
  (9, .sc emS),
  (23, .st [(none, .int .i64 0), (none, .int .i64 0), (none, .int .i64 0), (none, .int .i64 0)] [(0, 1), (1, 1), (2, 1), (3, 1)]),
  (28, .sl 43 2),
  (31, .sl 46 2),
  (41, .sl 3 1),
  (43, .st [(some 1, .slice none 0 0), (none, .int .i64 0)] [(0, 1), (1, 1)]),
  (44, .sl 9 1),
  (46, .st [(some 1, .slice none 0 0), (none, .int .i64 0)] [(0, 1), (1, 1)]),
  (53, .sl 5 1)]
theorem tab_ok : TOk Tryd.prog (tabT tab) := tabT_ok (by kernel_rfl)
theorem mixed : Tryd.prog.follows .mixedOrders = true := by kernel_rfl
abbrev nG : Nat := 2
class GOk (gG : Nat → Option Obj) : Prop where
  tab : ∀ w : World, (∀ b, b < nG → w.heap[b]? = gG b) → Lib.TabIs Tryd.prog w "internal/strconv.uint64pow10" .u64 Lib.pow10Tab
variable {gG : Nat → Option Obj} [GOk gG]
abbrev Ok (gG : Nat → Option Obj) (f : Nat) (en : Entry) : Prop := EntryOk Tryd.prog nG gG f en
theorem mk {f : Nat} {fn : Func} {en : Entry} (hfn : Tryd.prog.funcs[f]? = some fn) (hname : (fn.name == "runtime.NumGoroutine") = false) (cs : List ((Nat × Nat) × Entry)) (R : List (Nat × RR)) (h : Hints) (hcs : AllOk Tryd.prog nG gG cs)
    (hL : ∀ x, evalBody (ctxOf (tabT tab) cs (fun _ => false) R h fn.ntmps NN) fn en.rs (en.ps.enc x).1 (en.ps.enc x).2 = en.S x) : Ok gG f en := fn_ok tab_ok mixed hfn hname hcs hL
def laysJoin_ren : Go.Shelf.Ren := ⟨fun | 156 => 33 | 165 => 38 | 166 => 39 | 169 => 40 | 240 => 42 | 241 => 43 | 276 => 48 | 277 => 49 | n => n, fun | 31 => 44 | 9 => 9 | 3 => 3 | 4 => 4 | 0 => 0 | 20 => 20 | 72 => 58 | 76 => 62 | 70 => 56 | 37 => 53 | 75 => 61 | 127 => 66 | 164 => 73 | 5 => 5 | 80 => 64 | n => n, fun n => n⟩
theorem laysJoin : Go.Proofs.Lays.n156 Tryd.prog laysJoin_ren where
  mixed := by kernel_rfl
  f156 := Tryd.func33.trans (congrArg some (by kernel_rfl))
  f165 := Tryd.func38.trans (congrArg some (by kernel_rfl))
  f166 := Tryd.func39.trans (congrArg some (by kernel_rfl))
  f169 := Tryd.func40.trans (congrArg some (by kernel_rfl))
  f240 := Tryd.func42.trans (congrArg some (by kernel_rfl))
  f241 := Tryd.func43.trans (congrArg some (by kernel_rfl))
  f276 := Tryd.func48.trans (congrArg some (by kernel_rfl))
  f277 := Tryd.func49.trans (congrArg some (by kernel_rfl))
  t0 := Tryd.underlying0
  a0 := Tryd.isAgg0
  z0 := Tryd.sizeOf0
  v0 := Tryd.zeroValue0
  t3 := Tryd.underlying3
  a3 := Tryd.isAgg3
  z3 := Tryd.sizeOf3
  v3 := Tryd.zeroValue3
  t4 := Tryd.underlying4
  a4 := Tryd.isAgg4
  z4 := Tryd.sizeOf4
  v4 := Tryd.zeroValue4
  t9 := Tryd.underlying9
  a9 := Tryd.isAgg9
  z9 := Tryd.sizeOf9
  v9 := Tryd.zeroValue9
  t20 := Tryd.underlying20
  a20 := Tryd.isAgg20
  z20 := Tryd.sizeOf20
  v20 := Tryd.zeroValue20
  t31 := Tryd.underlying44
  a31 := Tryd.isAgg44
  z31 := Tryd.sizeOf44
  v31 := Tryd.zeroValue44
  t37 := Tryd.underlying53
  a37 := Tryd.isAgg53
  z37 := Tryd.sizeOf53
  v37 := Tryd.zeroValue53
  t70 := Tryd.underlying56
  a70 := Tryd.isAgg56
  z70 := Tryd.sizeOf56
  v70 := Tryd.zeroValue56
  t72 := Tryd.underlying58
  a72 := Tryd.isAgg58
  z72 := Tryd.sizeOf58
  v72 := Tryd.zeroValue58
  t75 := Tryd.underlying61
  a75 := Tryd.isAgg61
  z75 := Tryd.sizeOf61
  v75 := Tryd.zeroValue61
  t76 := Tryd.underlying62
  a76 := Tryd.isAgg62
  z76 := Tryd.sizeOf62
  v76 := Tryd.zeroValue62
  t127 := Tryd.underlying66
  a127 := Tryd.isAgg66
  z127 := Tryd.sizeOf66
  v127 := Tryd.zeroValue66
  t164 := Tryd.underlying73
  a164 := Tryd.isAgg73
  z164 := Tryd.sizeOf73
  v164 := Tryd.zeroValue73
theorem laysJoinX : Go.Proofs.Builder.Extra Tryd.prog laysJoin_ren where
  sizeBuilder := by kernel_rfl
  liesBuilder := by kernel_rfl
  t5 := Tryd.underlying5
  a5 := Tryd.isAgg5
  z5 := Tryd.sizeOf5
  v5 := Tryd.zeroValue5
  infoByte := by kernel_rfl
  cellsByte := by kernel_rfl
  sizeByte := by kernel_rfl
  neB5 := by decide
def laysItoa_ren : Go.Shelf.Ren := ⟨fun | 171 => 32 | 243 => 37 | 246 => 41 | 283 => 44 | 284 => 45 | 285 => 46 | 286 => 47 | 129 => 51 | 317 => 50 | 318 => 52 | 319 => 53 | 320 => 54 | 337 => 55 | 338 => 56 | n => n, fun | 3 => 3 | 9 => 9 | 2 => 2 | 4 => 4 | 171 => 67 | 0 => 0 | 53 => 68 | 37 => 53 | 5 => 5 | 173 => 71 | 212 => 78 | 51 => 79 | 20 => 20 | 213 => 80 | 46 => 82 | 232 => 85 | 233 => 86 | n => n, fun | 17 => 1 | 18 => 2 | 19 => 3 | n => n⟩
theorem laysItoa : Go.Proofs.LaysM.n171 Tryd.prog laysItoa_ren where
  mixed := by kernel_rfl
  f129 := Tryd.func51.trans (congrArg some (by kernel_rfl))
  f171 := Tryd.func32.trans (congrArg some (by kernel_rfl))
  f243 := Tryd.func37.trans (congrArg some (by kernel_rfl))
  f246 := Tryd.func41.trans (congrArg some (by kernel_rfl))
  f283 := Tryd.func44.trans (congrArg some (by kernel_rfl))
  f284 := Tryd.func45.trans (congrArg some (by kernel_rfl))
  f285 := Tryd.func46.trans (congrArg some (by kernel_rfl))
  f286 := Tryd.func47.trans (congrArg some (by kernel_rfl))
  f317 := Tryd.func50.trans (congrArg some (by kernel_rfl))
  f318 := Tryd.func52.trans (congrArg some (by kernel_rfl))
  f319 := Tryd.func53.trans (congrArg some (by kernel_rfl))
  f320 := Tryd.func54.trans (congrArg some (by kernel_rfl))
  f337 := Tryd.func55.trans (congrArg some (by kernel_rfl))
  f338 := Tryd.func56.trans (congrArg some (by kernel_rfl))
  t0 := Tryd.underlying0
  a0 := Tryd.isAgg0
  z0 := Tryd.sizeOf0
  v0 := Tryd.zeroValue0
  t2 := Tryd.underlying2
  a2 := Tryd.isAgg2
  z2 := Tryd.sizeOf2
  v2 := Tryd.zeroValue2
  t3 := Tryd.underlying3
  a3 := Tryd.isAgg3
  z3 := Tryd.sizeOf3
  v3 := Tryd.zeroValue3
  t4 := Tryd.underlying4
  a4 := Tryd.isAgg4
  z4 := Tryd.sizeOf4
  v4 := Tryd.zeroValue4
  t5 := Tryd.underlying5
  a5 := Tryd.isAgg5
  z5 := Tryd.sizeOf5
  v5 := Tryd.zeroValue5
  t9 := Tryd.underlying9
  a9 := Tryd.isAgg9
  z9 := Tryd.sizeOf9
  v9 := Tryd.zeroValue9
  t20 := Tryd.underlying20
  a20 := Tryd.isAgg20
  z20 := Tryd.sizeOf20
  v20 := Tryd.zeroValue20
  t37 := Tryd.underlying53
  a37 := Tryd.isAgg53
  z37 := Tryd.sizeOf53
  v37 := Tryd.zeroValue53
  t46 := Tryd.underlying82
  a46 := Tryd.isAgg82
  z46 := Tryd.sizeOf82
  v46 := Tryd.zeroValue82
  t51 := Tryd.underlying79
  a51 := Tryd.isAgg79
  z51 := Tryd.sizeOf79
  v51 := Tryd.zeroValue79
  t53 := Tryd.underlying68
  a53 := Tryd.isAgg68
  z53 := Tryd.sizeOf68
  v53 := Tryd.zeroValue68
  t171 := Tryd.underlying67
  a171 := Tryd.isAgg67
  z171 := Tryd.sizeOf67
  v171 := Tryd.zeroValue67
  t173 := Tryd.underlying71
  a173 := Tryd.isAgg71
  z173 := Tryd.sizeOf71
  v173 := Tryd.zeroValue71
  t212 := Tryd.underlying78
  a212 := Tryd.isAgg78
  z212 := Tryd.sizeOf78
  v212 := Tryd.zeroValue78
  t213 := Tryd.underlying80
  a213 := Tryd.isAgg80
  z213 := Tryd.sizeOf80
  t232 := Tryd.underlying85
  a232 := Tryd.isAgg85
  z232 := Tryd.sizeOf85
  v232 := Tryd.zeroValue85
  t233 := Tryd.underlying86
  a233 := Tryd.isAgg86
  z233 := Tryd.sizeOf86
  v233 := Tryd.zeroValue86
  g17 := by kernel_rfl
  g18 := by kernel_rfl
  g19 := by kernel_rfl
  i0 := by kernel_rfl
  i2 := by kernel_rfl
  i3 := by kernel_rfl
  i4 := by kernel_rfl
  i5 := by kernel_rfl
  i9 := by kernel_rfl
  i20 := by kernel_rfl
  i37 := by kernel_rfl
  i46 := by kernel_rfl
  i51 := by kernel_rfl
  i53 := by kernel_rfl
  i171 := by kernel_rfl
  i173 := by kernel_rfl
  i212 := by kernel_rfl
  i232 := by kernel_rfl
  i233 := by kernel_rfl
  m17 := by kernel_rfl
  m18 := by kernel_rfl
  m19 := by kernel_rfl
def laysIndexByte_ren : Go.Shelf.Ren := ⟨fun | 137 => 16 | 217 => 28 | 266 => 35 | n => n, fun | 9 => 9 | 5 => 5 | 3 => 3 | n => n, fun n => n⟩
theorem laysIndexByte : Go.Proofs.Lays.n137 Tryd.prog laysIndexByte_ren where
  mixed := by kernel_rfl
  f137 := Tryd.func16.trans (congrArg some (by kernel_rfl))
  f217 := Tryd.func28.trans (congrArg some (by kernel_rfl))
  f266 := Tryd.func35.trans (congrArg some (by kernel_rfl))
  t3 := Tryd.underlying3
  a3 := Tryd.isAgg3
  z3 := Tryd.sizeOf3
  v3 := Tryd.zeroValue3
  t5 := Tryd.underlying5
  a5 := Tryd.isAgg5
  z5 := Tryd.sizeOf5
  v5 := Tryd.zeroValue5
  t9 := Tryd.underlying9
  a9 := Tryd.isAgg9
  z9 := Tryd.sizeOf9
  v9 := Tryd.zeroValue9
noncomputable def E_strings_IndexByte : Entry := ⟨aV (rCo rS (rOne rY)), qV rI, fun (x : (ByteArray × Int)) => S_strings_IndexByte x.1 x.2⟩
theorem ok_strings_IndexByte : Ok gG 16 E_strings_IndexByte := strings_IndexByte_ok laysIndexByte rfl Tryd.func16 (by kernel_rfl) (by kernel_rfl)
noncomputable def E_strconv_Itoa : Entry := ⟨aV (rOne rI), qV rS, fun (x : Int) => S_strconv_Itoa x⟩
theorem ok_strconv_Itoa : Ok gG 32 E_strconv_Itoa := strconv_Itoa_ok laysItoa rfl Tryd.func32 (by kernel_rfl) (by kernel_rfl) GOk.tab
noncomputable def E_strings_Join : Entry := ⟨aV (rCo (rX .shr 1 sR) (rOne rS)), qV rS, fun (x : ((List ByteArray) × ByteArray)) => S_strings_Join x.1 x.2⟩
theorem ok_strings_Join : Ok gG 33 E_strings_Join := strings_Join_ok laysJoin laysJoinX rfl Tryd.func33 (by kernel_rfl) (by kernel_rfl)
noncomputable def E_sl1In : Entry := ⟨aV (rCo rI (rCo rI (rOne rI))), qV rB, fun (x : (Int × Int × Int)) => S_sl1In x.1 x.2.1 x.2.2⟩
theorem ok_sl1In : Ok gG 27 E_sl1In := mk Tryd.func27 (by kernel_rfl) [] [] {} trivial (fun x => by kernel_rfl)
noncomputable def E_sIsPath : Entry := ⟨aV (rOne (rAg pathR)), qV rB, fun (x : Path) => S_sIsPath x⟩
theorem ok_sIsPath : Ok gG 13 E_sIsPath := mk Tryd.func13 (by kernel_rfl) [((27, 0), E_sl1In)] [] {} ⟨ok_sl1In, trivial⟩ (fun x => by kernel_rfl)
noncomputable def E_sFormatInt : Entry := ⟨aV (rOne rI), qV rS, fun (x : Int) => S_sFormatInt x⟩
theorem ok_sFormatInt : Ok gG 20 E_sFormatInt := mk Tryd.func20 (by kernel_rfl) [] [] { lv := [(5, ⟨[0, 3, 4], [], [], pV (rCo rI (rCo rS (rOne rI)))⟩)] } trivial (fun x => by kernel_rfl)
noncomputable def E_sPathText : Entry := ⟨aV (rOne (rAg pathR)), qV rS, fun (x : Path) => S_sPathText x⟩
theorem ok_sPathText : Ok gG 14 E_sPathText := mk Tryd.func14 (by kernel_rfl) [((13, 0), E_sIsPath), ((20, 0), E_sFormatInt)] [(9, sR)] {} ⟨ok_sIsPath, ok_sFormatInt, trivial⟩ (fun x => by kernel_rfl)
noncomputable def E_sParsePath : Entry := ⟨aV (rOne rS), qV (rTu (rCo (rAg pathR) (rOne rB))), fun (x : ByteArray) => S_sParsePath x⟩
theorem ok_sParsePath : Ok gG 5 E_sParsePath := mk Tryd.func5 (by kernel_rfl) [((13, 0), E_sIsPath), ((14, 0), E_sPathText)] [] { lv := [(2, ⟨[0, 4], [(2, 2, false)], [(2, 4, false, false)], pVO (rCo rS (rOne rI)) (oRow1 pathR)⟩), (5, ⟨[0, 4, 5], [(2, 2, false)], [(2, 4, false, false)], pVO (rCo rS (rCo rI (rOne rI))) (oRow1 pathR)⟩), (8, ⟨[0, 4, 5, 6], [(2, 2, false)], [(2, 4, false, false)], pVO (rCo rS (rCo rI (rCo rI (rOne rI)))) (oRow1 pathR)⟩)] } ⟨ok_sIsPath, ok_sPathText, trivial⟩ (fun x => by kernel_rfl)
noncomputable def E_iParseInt : Entry := ⟨aV (rOne rS), qV (rTu (rCo rI (rOne rB))), fun (x : ByteArray) => S_iParseInt x⟩
theorem ok_iParseInt : Ok gG 15 E_iParseInt := mk Tryd.func15 (by kernel_rfl) [] [] { lv := [(5, ⟨[0, 4, 25, 26], [], [], pV (rCo rS (rCo rI (rCo rI (rOne rI))))⟩)] } trivial (fun x => by kernel_rfl)
noncomputable def E_iInRange : Entry := ⟨aV (rCo rI (rCo rI (rOne rI))), qV rB, fun (x : (Int × Int × Int)) => S_iInRange x.1 x.2.1 x.2.2⟩
theorem ok_iInRange : Ok gG 36 E_iInRange := mk Tryd.func36 (by kernel_rfl) [] [] {} trivial (fun x => by kernel_rfl)
noncomputable def E_iIsPath : Entry := ⟨aV (rOne (rAg pathR)), qV rB, fun (x : Path) => S_iIsPath x⟩
theorem ok_iIsPath : Ok gG 29 E_iIsPath := mk Tryd.func29 (by kernel_rfl) [((36, 0), E_iInRange)] [] {} ⟨ok_iInRange, trivial⟩ (fun x => by kernel_rfl)
noncomputable def E_iFormatInt : Entry := ⟨aV (rOne rI), qV rS, fun (x : Int) => S_iFormatInt x⟩
theorem ok_iFormatInt : Ok gG 24 E_iFormatInt := mk Tryd.func24 (by kernel_rfl) [((32, 0), E_strconv_Itoa)] [] {} ⟨ok_strconv_Itoa, trivial⟩ (fun x => by kernel_rfl)
noncomputable def E_iPathText : Entry := ⟨aV (rOne (rAg pathR)), qV rS, fun (x : Path) => S_iPathText x⟩
theorem ok_iPathText : Ok gG 17 E_iPathText := mk Tryd.func17 (by kernel_rfl) [((29, 0), E_iIsPath), ((24, 0), E_iFormatInt)] [] {} ⟨ok_iIsPath, ok_iFormatInt, trivial⟩ (fun x => by kernel_rfl)
noncomputable def E_iParsePath : Entry := ⟨aV (rOne rS), qV (rTu (rCo (rAg pathR) (rOne rB))), fun (x : ByteArray) => S_iParsePath x⟩
theorem ok_iParsePath : Ok gG 6 E_iParsePath := mk Tryd.func6 (by kernel_rfl) [((15, 0), E_iParseInt), ((16, 0), E_strings_IndexByte), ((17, 0), E_iPathText)] [] {} ⟨ok_iParseInt, ok_strings_IndexByte, ok_iPathText, trivial⟩ (fun x => by kernel_rfl)
noncomputable def E_leqPath : Entry := ⟨aV (rCo (rAg pathR) (rOne (rAg pathR))), qV rB, fun (x : (Path × Path)) => S_leqPath x.1 x.2⟩
theorem ok_leqPath : Ok gG 7 E_leqPath := mk Tryd.func7 (by kernel_rfl) [] [] {} trivial (fun x => by kernel_rfl)
noncomputable def E_lFnExactParsePath : Entry := ⟨aV (rOne rS), qV rB, fun (x : ByteArray) => S_lFnExactParsePath x⟩
theorem ok_lFnExactParsePath : Ok gG 3 E_lFnExactParsePath := mk Tryd.func3 (by kernel_rfl) [((5, 0), E_sParsePath), ((6, 0), E_iParsePath), ((7, 0), E_leqPath)] [] {} ⟨ok_sParsePath, ok_iParsePath, ok_leqPath, trivial⟩ (fun x => by kernel_rfl)
noncomputable def E_lszIntS : Entry := ⟨aV (rCo (rX .shr 1 iR) (rOne rI)), qV rI, fun (x : ((List Int) × Int)) => S_lszIntS x.1 x.2⟩
theorem ok_lszIntS : Ok gG 30 E_lszIntS := mk Tryd.func30 (by kernel_rfl) [] [] {} trivial (fun x => by kernel_rfl)
noncomputable def E_lszPart : Entry := ⟨aV (rCo (rAg (partR .shr)) (rOne rI)), qV rI, fun (x : (Part × Int)) => S_lszPart x.1 x.2⟩
theorem ok_lszPart : Ok gG 18 E_lszPart := mk Tryd.func18 (by kernel_rfl) [((30, 0), E_lszIntS)] [] {} ⟨ok_lszIntS, trivial⟩ (fun x => by kernel_rfl)
noncomputable def E_lszPartS : Entry := ⟨aV (rCo (rX .shr 2 (partR .shr)) (rOne rI)), qV rI, fun (x : ((List Part) × Int)) => S_lszPartS x.1 x.2⟩
theorem ok_lszPartS : Ok gG 8 E_lszPartS := mk Tryd.func8 (by kernel_rfl) [((18, 0), E_lszPart)] [(43, (partR .shr))] { lv := [(5, ⟨[0, 1, 5], [], [], pV (rCo (rX .shr 2 (partR .shr)) (rCo rI (rOne rI)))⟩)] } ⟨ok_lszPart, trivial⟩ (fun x => by kernel_rfl)
noncomputable def E_ltoIntS : Entry := ⟨aV (rOne (rX .shr 1 iR)), qV (rX .own 1 iR), fun (x : (List Int)) => S_ltoIntS x⟩
theorem ok_ltoIntS : Ok gG 31 E_ltoIntS := mk Tryd.func31 (by kernel_rfl) [] [(3, iR)] { ro := [(7, iR)], lv := [(3, ⟨[0, 4], [(3, 7, true)], [(7, 1, true, false)], pVO (rCo (rX .shr 1 iR) (rOne rI)) (oArr1 iR)⟩)] } trivial (fun x => by kernel_rfl)
noncomputable def E_ltoPart : Entry := ⟨aV (rOne (rAg (partR .shr))), qV (rAg (partR .own)), fun (x : Part) => S_ltoPart x⟩
theorem ok_ltoPart : Ok gG 22 E_ltoPart := mk Tryd.func22 (by kernel_rfl) [((31, 0), E_ltoIntS)] [] { tk := [(2, 4), (4, 1)], mo := [(4, 0)] } ⟨ok_ltoIntS, trivial⟩ (fun x => by kernel_rfl)
noncomputable def E_ltoPartS : Entry := ⟨aV (rOne (rX .shr 2 (partR .shr))), qV (rX .own 2 (partR .own)), fun (x : (List Part)) => S_ltoPartS x⟩
theorem ok_ltoPartS : Ok gG 10 E_ltoPartS := mk Tryd.func10 (by kernel_rfl) [((22, 0), E_ltoPart)] [(43, (partR .shr))] { tk := [(5, 8)], ro := [(7, (partR .own))], lv := [(3, ⟨[0, 4], [(3, 7, true)], [(7, 2, true, false)], pVO (rCo (rX .shr 2 (partR .shr)) (rOne rI)) (oArr1 (partR .own))⟩)] } ⟨ok_ltoPart, trivial⟩ (fun x => by kernel_rfl)
noncomputable def E_sl39Join : Entry := ⟨aV (rCo (rX .shr 1 sR) (rOne rS)), qV rS, fun (x : ((List ByteArray) × ByteArray)) => S_sl39Join x.1 x.2⟩
theorem ok_sl39Join : Ok gG 21 E_sl39Join := mk Tryd.func21 (by kernel_rfl) [] [(9, sR)] { lv := [(3, ⟨[0, 1, 5, 6], [], [], pV (rCo (rX .shr 1 sR) (rCo rS (rCo rS (rOne rI))))⟩)] } trivial (fun x => by kernel_rfl)
noncomputable def E_sFormatNumbers : Entry := ⟨aV (rOne (rX .shr 1 iR)), qV rS, fun (x : (List Int)) => S_sFormatNumbers x⟩
theorem ok_sFormatNumbers : Ok gG 19 E_sFormatNumbers := mk Tryd.func19 (by kernel_rfl) [((20, 0), E_sFormatInt), ((21, 0), E_sl39Join)] [(3, iR)] { tk := [(1, 1), (5, 0), (5, 7), (5, 8), (6, 0)], lv := [(3, ⟨[0, 3, 4], [], [], pV (rCo (rX .shr 1 iR) (rCo (rX .own 1 sR) (rOne rI)))⟩)] } ⟨ok_sFormatInt, ok_sl39Join, trivial⟩ (fun x => by kernel_rfl)
noncomputable def E_sFormatPlan : Entry := ⟨aV (rOne (rX .shr 2 (partR .shr))), qV rS, fun (x : (List Part)) => S_sFormatPlan x⟩
theorem ok_sFormatPlan : Ok gG 9 E_sFormatPlan := mk Tryd.func9 (by kernel_rfl) [((19, 0), E_sFormatNumbers), ((20, 0), E_sFormatInt), ((21, 0), E_sl39Join)] [(46, (partR .shr))] { tk := [(1, 1), (5, 0), (5, 16), (5, 17), (6, 0)], lv := [(3, ⟨[0, 3, 4], [], [], pV (rCo (rX .shr 2 (partR .shr)) (rCo (rX .own 1 sR) (rOne rI)))⟩)] } ⟨ok_sFormatNumbers, ok_sFormatInt, ok_sl39Join, trivial⟩ (fun x => by kernel_rfl)
noncomputable def E_ijoined : Entry := ⟨aV (rCo (rX .shr 1 sR) (rOne rS)), qV rS, fun (x : ((List ByteArray) × ByteArray)) => S_ijoined x.1 x.2⟩
theorem ok_ijoined : Ok gG 25 E_ijoined := mk Tryd.func25 (by kernel_rfl) [((33, 0), E_strings_Join)] [] {} ⟨ok_strings_Join, trivial⟩ (fun x => by kernel_rfl)
noncomputable def E_iFormatNumbers : Entry := ⟨aV (rOne (rX .shr 1 iR)), qV rS, fun (x : (List Int)) => S_iFormatNumbers x⟩
theorem ok_iFormatNumbers : Ok gG 23 E_iFormatNumbers := mk Tryd.func23 (by kernel_rfl) [((24, 0), E_iFormatInt), ((25, 0), E_ijoined)] [(3, iR)] { tk := [(1, 1), (5, 0), (5, 4), (5, 5), (7, 0)], lv := [(3, ⟨[3, 7, 8, 9], [], [], pV (rCo (rX .own 1 sR) (rCo (rX .shr 1 iR) (rCo rI (rOne rI))))⟩)] } ⟨ok_iFormatInt, ok_ijoined, trivial⟩ (fun x => by kernel_rfl)
noncomputable def E_iFormatPlan : Entry := ⟨aV (rOne (rX .shr 2 (partR .shr))), qV rS, fun (x : (List Part)) => S_iFormatPlan x⟩
theorem ok_iFormatPlan : Ok gG 11 E_iFormatPlan := mk Tryd.func11 (by kernel_rfl) [((23, 0), E_iFormatNumbers), ((24, 0), E_iFormatInt), ((25, 0), E_ijoined)] [(46, (partR .shr))] { tk := [(1, 1), (5, 0), (5, 10), (5, 11), (7, 0)], lv := [(3, ⟨[3, 7, 8, 9], [], [], pV (rCo (rX .own 1 sR) (rCo (rX .shr 2 (partR .shr)) (rCo rI (rOne rI))))⟩)] } ⟨ok_iFormatNumbers, ok_iFormatInt, ok_ijoined, trivial⟩ (fun x => by kernel_rfl)
noncomputable def E_leqIntS : Entry := ⟨aV (rCo (rX .shr 1 iR) (rOne (rX .shr 1 iR))), qV rB, fun (x : ((List Int) × (List Int))) => S_leqIntS x.1 x.2⟩
theorem ok_leqIntS : Ok gG 34 E_leqIntS := mk Tryd.func34 (by kernel_rfl) [] [(3, iR)] { lv := [(4, ⟨[0, 1, 5], [], [], pV (rCo (rX .shr 1 iR) (rCo (rX .shr 1 iR) (rOne rI)))⟩)] } trivial (fun x => by kernel_rfl)
noncomputable def E_leqPart : Entry := ⟨aV (rCo (rAg (partR .shr)) (rOne (rAg (partR .shr)))), qV rB, fun (x : (Part × Part)) => S_leqPart x.1 x.2⟩
theorem ok_leqPart : Ok gG 26 E_leqPart := mk Tryd.func26 (by kernel_rfl) [((34, 0), E_leqIntS)] [] {} ⟨ok_leqIntS, trivial⟩ (fun x => by kernel_rfl)
noncomputable def E_leqPartS : Entry := ⟨aV (rCo (rX .shr 2 (partR .shr)) (rOne (rX .shr 2 (partR .shr)))), qV rB, fun (x : ((List Part) × (List Part))) => S_leqPartS x.1 x.2⟩
theorem ok_leqPartS : Ok gG 12 E_leqPartS := mk Tryd.func12 (by kernel_rfl) [((26, 0), E_leqPart)] [(46, (partR .shr))] { lv := [(4, ⟨[0, 1, 5], [], [], pV (rCo (rX .shr 2 (partR .shr)) (rCo (rX .shr 2 (partR .shr)) (rOne rI)))⟩)] } ⟨ok_leqPart, trivial⟩ (fun x => by kernel_rfl)
noncomputable def E_lFnExactFormatPlan : Entry := ⟨aV (rOne (rX .shr 2 (partR .shr))), qV rB, fun (x : (List Part)) => S_lFnExactFormatPlan x⟩
theorem ok_lFnExactFormatPlan : Ok gG 4 E_lFnExactFormatPlan := mk Tryd.func4 (by kernel_rfl) [((8, 0), E_lszPartS), ((10, 0), E_ltoPartS), ((9, 0), E_sFormatPlan), ((11, 0), E_iFormatPlan), ((12, 0), E_leqPartS)] [] { tk := [(6, 2), (10, 0)] } ⟨ok_lszPartS, ok_ltoPartS, ok_sFormatPlan, ok_iFormatPlan, ok_leqPartS, trivial⟩ (fun x => by kernel_rfl)
end Go.Proofs.YteaoohmablanhaaDoor
