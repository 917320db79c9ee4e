/- Part of the proof: see the last text of the claim. -/
import Derived.Test.YteaoohmablanhaaSh7
import Derived.KernelRfl
import Derived.Test.YteaoohmablanhaaRows
set_option linter.all false
namespace Go.Proofs.Yteaoohmablanhaa
open Go.Fx Go.Sh
set_option maxRecDepth 100000
set_option linter.unusedSectionVars false
def emS : Value := .string ⟨#[]⟩
def tab : List (Nat × TD) := [(3, .sc (.int .i64 0)),
  (4, .sc (.bool false)),
  (22, .sl 87 4),
  (23, .sl 81 2),
  (27, .sl 83 4),
  (29, .sl 88 2),
  (34, .sl 93 4),
  (40, .sl 3 1),
  (44, .sl 85 4),
  (51, .st [(some 1, .slice none 0 0), (none, .int .i64 0), (some 1, .slice none 0 0), (none, .int .i64 0)] [(0, 1), (1, 1), (2, 1), (3, 1)]),
  (52, .sl 154 2),
  (54, .st [(none, .int .i64 0), (none, .int .i64 0)] [(0, 1), (1, 1)]),
  (55, .sl 158 3),
  (56, .sl 148 3),
  (58, .st [(some 4, .slice none 0 0), (some 1, .slice none 0 0), (none, .int .i64 0), (some 1, .slice none 0 0), (none, .int .i64 0), (some 2, .slice none 0 0), (none, .int .i64 0), (none, .int .i64 0), (some 3, .slice none 0 0), (none, .bool false), (some 3, .slice none 0 0), (none, .int .i64 0), (none, .int .i64 0)] [(0, 1), (1, 4), (5, 1), (6, 2), (8, 1), (9, 1), (10, 1), (11, 1), (12, 1)]),
  (61, .st [(some 1, .slice none 0 0), (none, .int .i64 0), (some 1, .slice none 0 0), (none, .int .i64 0)] [(0, 1), (1, 1), (2, 1), (3, 1)]),
  (62, .sl 152 2),
  (63, .st [(none, .int .i64 0), (none, .int .i64 0)] [(0, 1), (1, 1)]),
  (64, .sl 156 3),
  (65, .sl 129 3),
  (67, .st [(some 4, .slice none 0 0), (some 1, .slice none 0 0), (none, .int .i64 0), (some 1, .slice none 0 0), (none, .int .i64 0), (some 2, .slice none 0 0), (none, .int .i64 0), (none, .int .i64 0), (some 3, .slice none 0 0), (none, .bool false), (some 3, .slice none 0 0), (none, .int .i64 0), (none, .int .i64 0)] [(0, 1), (1, 4), (5, 1), (6, 2), (8, 1), (9, 1), (10, 1), (11, 1), (12, 1)]),
  (81, .st [(some 1, .slice none 0 0), (none, .int .i64 0)] [(0, 1), (1, 1)]),
  (83, .st [(none, .int .i64 0), (none, .int .i64 0), (none, .int .i64 0), (none, .int .i64 0)] [(0, 1), (1, 1), (2, 1), (3, 1)]),
  (85, .st [(none, .int .i64 0), (none, .int .i64 0), (none, .int .i64 0), (none, .int .i64 0)] [(0, 1), (1, 1), (2, 1), (3, 1)]),
  (87, .st [(none, .int .i64 0), (none, .int .i64 0), (none, .int .i64 0), (none, .int .i64 0)] [(0, 1), (1, 1), (2, 1), (3, 1)]),
  (88, .st [(some 1, .slice none 0 0), (none, .int .i64 0)] [(0, 1), (1, 1)]),
  (93, .st [(none, .int .i64 0), (none, .int .i64 0), (none, .int .i64 0), (none, .bool false)] [(0, 1), (1, 1), (2, 1), (3, 1)]),
  (95, .sl 40 1),
  (129, .st [(none, .int .i64 0), (some 1, .slice none 0 0), (none, .int .i64 0)] [(0, 1), (1, 1), (2, 1)]),
  (137, .sc .nilFunc),
  (148, .st [(none, .int .i64 0), (some 1, .slice none 0 0), (none, .int .i64 0)] [(0, 1), (1, 1), (2, 1)]),
  (152, .st [(none, .int .i64 0), (none, .int .i64 0)] [(0, 1), (1, 1)]),
  (154, .st [(none, .int .i64 0), (none, .int .i64 0)] [(0, 1), (1, 1)]),
  (156, .st [(none, .int .i64 0), (none, .int .i64 0), (none, .bool false)] [(0, 1), (1, 1), (2, 1)]),
  (158, .st [(none, .int .i64 0), (none, .int .i64 0), (none, .bool false)] [(0, 1), (1, 1), (2, 1)]),
  (174, .sl 4 1),
  (177, .sc .nilFunc),
  (208, .sc .nilFunc)]
theorem tab_ok : TOk Try.prog (tabT tab) := tabT_ok (by kernel_rfl)
theorem mixed : Try.prog.follows .mixedOrders = true := by kernel_rfl
abbrev nG : Nat := 0
abbrev gG : Nat → Option Obj := fun _ => none
abbrev Ok (f : Nat) (en : Entry) : Prop := EntryOk Try.prog nG gG f en
abbrev OkU (f : Nat) (en : Entry) : Prop := EntryUOk Try.prog nG gG f en
theorem mk {f : Nat} {fn : Func} {en : Entry} (hfn : Try.prog.funcs[f]? = some fn) (hname : (fn.name == "runtime.NumGoroutine") = false) (cs us : List ((Nat × Nat) × Entry)) (R : List (Nat × RR)) (h : Hints) (hcs : AllOk Try.prog nG gG cs) (hus : AllUOk Try.prog nG gG us)
    (hL : ∀ x, evalBody (ctxOf (tabT tab) cs us (fun _ => false) R h fn.ntmps NN) fn en.rs (en.ps.enc x).1 (en.ps.enc x).2 = en.S x) : Ok f en := fn_ok tab_ok mixed hfn hname hcs hus hL
theorem mkU {f : Nat} {fn : Func} {en : Entry} (hfn : Try.prog.funcs[f]? = some fn) (hname : (fn.name == "runtime.NumGoroutine") = false) (cs us : List ((Nat × Nat) × Entry)) (R : List (Nat × RR)) (h : Hints) (hcs : AllOk Try.prog nG gG cs) (hus : AllUOk Try.prog nG gG us)
    (hL : ∀ x, evalBodyU (ctxOf (tabT tab) cs us (fun _ => false) R h fn.ntmps NN true) fn en.rs (en.ps.enc x).1 = en.S x) : OkU f en := fnU_ok tab_ok mixed hfn hname hcs hus hL
noncomputable def E_lszPathS : Entry := ⟨aV (rCo (rX .shr 4 pathR) (rOne rI)), qV rI, fun (x : ((List Path) × Int)) => S_lszPathS x.1 x.2⟩
theorem ok_lszPathS : Ok 11 E_lszPathS := mk Try.func11 (by kernel_rfl) [] [] [] {} trivial trivial (fun x => by kernel_rfl)
noncomputable def E_ltoPath : Entry := ⟨aV (rOne (rAg pathR)), qV (rAg pathR), fun (x : Path) => S_ltoPath x⟩
theorem ok_ltoPath : Ok 50 E_ltoPath := mk Try.func50 (by kernel_rfl) [] [] [] {} trivial trivial (fun x => by kernel_rfl)
noncomputable def E_ltoPathS : Entry := ⟨aV (rOne (rX .shr 4 pathR)), qV (rX .own 4 pathR), fun (x : (List Path)) => S_ltoPathS x⟩
theorem ok_ltoPathS : Ok 14 E_ltoPathS := mk Try.func14 (by kernel_rfl) [((50, 0), E_ltoPath)] [] [(87, pathR)] { ro := [(7, pathR)], lv := [(3, ⟨[0, 4], [(3, 7, true)], [(7, 4, true, false)], pVO (rCo (rX .shr 4 pathR) (rOne rI)) (oArr1 pathR)⟩)] } ⟨ok_ltoPath, trivial⟩ trivial (fun x => by kernel_rfl)
noncomputable def E_sCallAll : Entry := ⟨aV (rOne (rX .shr 4 pathR)), qV (rX .own 4 evtR), fun (x : (List Path)) => S_sCallAll x⟩
theorem ok_sCallAll : Ok 19 E_sCallAll := mk Try.func19 (by kernel_rfl) [] [] [(83, pathR)] { tk := [(1, 1), (5, 0), (5, 8), (5, 9), (6, 0), (6, 1)], lv := [(3, ⟨[0, 3, 4], [], [], pV (rCo (rX .shr 4 pathR) (rCo (rX .own 4 evtR) (rOne rI)))⟩)] } trivial trivial (fun x => by kernel_rfl)
noncomputable def E_iCallAll : Entry := ⟨aV (rOne (rX .shr 4 pathR)), qV (rX .own 4 evtR), fun (x : (List Path)) => S_iCallAll x⟩
theorem ok_iCallAll : Ok 20 E_iCallAll := mk Try.func20 (by kernel_rfl) [] [] [(83, pathR)] { tk := [(1, 1), (5, 0), (5, 5), (5, 6), (7, 0), (7, 1)], lv := [(3, ⟨[3, 7, 8, 9], [], [], pV (rCo (rX .own 4 evtR) (rCo (rX .shr 4 pathR) (rCo rI (rOne rI))))⟩)] } trivial trivial (fun x => by kernel_rfl)
noncomputable def E_leqEvent : Entry := ⟨aV (rCo (rAg evtR) (rOne (rAg evtR))), qV rB, fun (x : (Evt × Evt)) => S_leqEvent x.1 x.2⟩
theorem ok_leqEvent : Ok 55 E_leqEvent := mk Try.func55 (by kernel_rfl) [] [] [] {} trivial trivial (fun x => by kernel_rfl)
noncomputable def E_leqEventS : Entry := ⟨aV (rCo (rX .shr 4 evtR) (rOne (rX .shr 4 evtR))), qV rB, fun (x : ((List Evt) × (List Evt))) => S_leqEventS x.1 x.2⟩
theorem ok_leqEventS : Ok 21 E_leqEventS := mk Try.func21 (by kernel_rfl) [((55, 0), E_leqEvent)] [] [(93, evtR)] { lv := [(4, ⟨[0, 1, 5], [], [], pV (rCo (rX .shr 4 evtR) (rCo (rX .shr 4 evtR) (rOne rI)))⟩)] } ⟨ok_leqEvent, trivial⟩ trivial (fun x => by kernel_rfl)
noncomputable def E_leqPath : Entry := ⟨aV (rCo (rAg pathR) (rOne (rAg pathR))), qV rB, fun (x : (Path × Path)) => S_leqPath x.1 x.2⟩
theorem ok_leqPath : Ok 53 E_leqPath := mk Try.func53 (by kernel_rfl) [] [] [] {} trivial trivial (fun x => by kernel_rfl)
noncomputable def E_leqPathS : Entry := ⟨aV (rCo (rX .shr 4 pathR) (rOne (rX .shr 4 pathR))), qV rB, fun (x : ((List Path) × (List Path))) => S_leqPathS x.1 x.2⟩
theorem ok_leqPathS : Ok 17 E_leqPathS := mk Try.func17 (by kernel_rfl) [((53, 0), E_leqPath)] [] [(83, pathR)] { lv := [(4, ⟨[0, 1, 5], [], [], pV (rCo (rX .shr 4 pathR) (rCo (rX .shr 4 pathR) (rOne rI)))⟩)] } ⟨ok_leqPath, trivial⟩ trivial (fun x => by kernel_rfl)
noncomputable def E_lmarkPathS : Entry := ⟨aV (rCo (rX .unq 4 pathR) (rOne rI)), qV (rTu (rCo rI (rOne (rX .unq 4 pathR)))), fun (x : ((List Path) × Int)) => S_lmarkPathS x.1 x.2⟩
theorem ok_lmarkPathS : OkU 22 E_lmarkPathS := mkU Try.func22 (by kernel_rfl) [] [] [] { ro := [(0, pathR)], lv := [(2, ⟨[1, 5], [(0, 0, true)], [(0, 4, true, false)], pVO (rCo rI (rOne rI)) (oArr1 pathR)⟩)] } trivial trivial (fun x => by kernel_rfl)
noncomputable def E_lmarkEventS : Entry := ⟨aV (rCo (rX .unq 4 evtR) (rOne rI)), qV (rTu (rCo rI (rOne (rX .unq 4 evtR)))), fun (x : ((List Evt) × Int)) => S_lmarkEventS x.1 x.2⟩
theorem ok_lmarkEventS : OkU 23 E_lmarkEventS := mkU Try.func23 (by kernel_rfl) [] [] [] { ro := [(0, evtR)], lv := [(2, ⟨[1, 5], [(0, 0, true)], [(0, 4, true, false)], pVO (rCo rI (rOne rI)) (oArr1 evtR)⟩)] } trivial trivial (fun x => by kernel_rfl)
noncomputable def E_lheldEventS : Entry := ⟨aV (rCo (rX .shr 4 evtR) (rOne rI)), qV rI, fun (x : ((List Evt) × Int)) => S_lheldEventS x.1 x.2⟩
theorem ok_lheldEventS : Ok 24 E_lheldEventS := mk Try.func24 (by kernel_rfl) [] [] [(93, evtR)] { lv := [(2, ⟨[0, 1, 5], [], [], pV (rCo (rX .shr 4 evtR) (rCo rI (rOne rI)))⟩)] } trivial trivial (fun x => by kernel_rfl)
noncomputable def E_lFnExactCallAll : Entry := ⟨aV (rOne (rX .shr 4 pathR)), qV rB, fun (x : (List Path)) => S_lFnExactCallAll x⟩
theorem ok_lFnExactCallAll : Ok 4 E_lFnExactCallAll := mk Try.func4 (by kernel_rfl) [((11, 0), E_lszPathS), ((14, 0), E_ltoPathS), ((19, 0), E_sCallAll), ((20, 0), E_iCallAll), ((21, 0), E_leqEventS), ((17, 0), E_leqPathS), ((24, 0), E_lheldEventS)] [((22, 0), E_lmarkPathS), ((23, 0), E_lmarkEventS)] [] { tk := [(5, 3), (25, 1)], hb := [((6, 1), 2), ((7, 1), 2), ((8, 2), 2), ((10, 3), 2), ((13, 2), 3), ((14, 5), 2), ((17, 2), 3), ((19, 2), 2), ((24, 2), 2), ((25, 2), 2), ((28, 2), 2)], th := [(6, 1), (7, 1), (24, 2)], rt := [((6, 1), (rX .unq 4 pathR)), ((7, 1), (rX .unq 4 evtR)), ((24, 2), (rX .unq 4 evtR))] } ⟨ok_lszPathS, ok_ltoPathS, ok_sCallAll, ok_iCallAll, ok_leqEventS, ok_leqPathS, ok_lheldEventS, trivial⟩ ⟨ok_lmarkPathS, ok_lmarkEventS, trivial⟩ (fun x => by kernel_rfl)
noncomputable def E_lszIntS : Entry := ⟨aV (rCo (rX .shr 1 iR) (rOne rI)), qV rI, fun (x : ((List Int) × Int)) => S_lszIntS x.1 x.2⟩
theorem ok_lszIntS : Ok 110 E_lszIntS := mk Try.func110 (by kernel_rfl) [] [] [] {} trivial trivial (fun x => by kernel_rfl)
noncomputable def E_lszPart : Entry := ⟨aV (rCo (rAg (partR .shr)) (rOne rI)), qV rI, fun (x : (Part × Int)) => S_lszPart x.1 x.2⟩
theorem ok_lszPart : Ok 49 E_lszPart := mk Try.func49 (by kernel_rfl) [((110, 0), E_lszIntS)] [] [] {} ⟨ok_lszIntS, trivial⟩ trivial (fun x => by kernel_rfl)
noncomputable def E_lszPartS : Entry := ⟨aV (rCo (rX .shr 2 (partR .shr)) (rOne rI)), qV rI, fun (x : ((List Part) × Int)) => S_lszPartS x.1 x.2⟩
theorem ok_lszPartS : Ok 12 E_lszPartS := mk Try.func12 (by kernel_rfl) [((49, 0), E_lszPart)] [] [(81, (partR .shr))] { lv := [(5, ⟨[0, 1, 5], [], [], pV (rCo (rX .shr 2 (partR .shr)) (rCo rI (rOne rI)))⟩)] } ⟨ok_lszPart, trivial⟩ trivial (fun x => by kernel_rfl)
noncomputable def E_ltoIntS : Entry := ⟨aV (rOne (rX .shr 1 iR)), qV (rX .own 1 iR), fun (x : (List Int)) => S_ltoIntS x⟩
theorem ok_ltoIntS : Ok 111 E_ltoIntS := mk Try.func111 (by kernel_rfl) [] [] [(3, iR)] { ro := [(7, iR)], lv := [(3, ⟨[0, 4], [(3, 7, true)], [(7, 1, true, false)], pVO (rCo (rX .shr 1 iR) (rOne rI)) (oArr1 iR)⟩)] } trivial trivial (fun x => by kernel_rfl)
noncomputable def E_ltoPart : Entry := ⟨aV (rOne (rAg (partR .shr))), qV (rAg (partR .own)), fun (x : Part) => S_ltoPart x⟩
theorem ok_ltoPart : Ok 51 E_ltoPart := mk Try.func51 (by kernel_rfl) [((111, 0), E_ltoIntS)] [] [] { tk := [(2, 4), (4, 1)], mo := [(4, 0)] } ⟨ok_ltoIntS, trivial⟩ trivial (fun x => by kernel_rfl)
noncomputable def E_ltoPartS : Entry := ⟨aV (rOne (rX .shr 2 (partR .shr))), qV (rX .own 2 (partR .own)), fun (x : (List Part)) => S_ltoPartS x⟩
theorem ok_ltoPartS : Ok 15 E_ltoPartS := mk Try.func15 (by kernel_rfl) [((51, 0), E_ltoPart)] [] [(81, (partR .shr))] { tk := [(5, 8)], ro := [(7, (partR .own))], lv := [(3, ⟨[0, 4], [(3, 7, true)], [(7, 2, true, false)], pVO (rCo (rX .shr 2 (partR .shr)) (rOne rI)) (oArr1 (partR .own))⟩)] } ⟨ok_ltoPart, trivial⟩ trivial (fun x => by kernel_rfl)
noncomputable def E_sl1In : Entry := ⟨aV (rCo rI (rCo rI (rOne rI))), qV rB, fun (x : (Int × Int × Int)) => S_sl1In x.1 x.2.1 x.2.2⟩
theorem ok_sl1In : Ok 92 E_sl1In := mk Try.func92 (by kernel_rfl) [] [] [] {} trivial trivial (fun x => by kernel_rfl)
noncomputable def E_sFindPath : Entry := ⟨aV (rCo (rX .shr 4 pathR) (rOne rI)), qV rI, fun (x : ((List Path) × Int)) => S_sFindPath x.1 x.2⟩
theorem ok_sFindPath : Ok 123 E_sFindPath := mk Try.func123 (by kernel_rfl) [] [] [(83, pathR)] { lv := [(2, ⟨[0, 1, 5], [], [], pV (rCo (rX .shr 4 pathR) (rCo rI (rOne rI)))⟩)] } trivial trivial (fun x => by kernel_rfl)
noncomputable def E_sIsPath : Entry := ⟨aV (rOne (rAg pathR)), qV rB, fun (x : Path) => S_sIsPath x⟩
theorem ok_sIsPath : Ok 154 E_sIsPath := mk Try.func154 (by kernel_rfl) [((92, 0), E_sl1In)] [] [] {} ⟨ok_sl1In, trivial⟩ trivial (fun x => by kernel_rfl)
noncomputable def E_sInPlace : Entry := ⟨aV (rOne rI), qV rI, fun (x : Int) => S_sInPlace x⟩
theorem ok_sInPlace : Ok 156 E_sInPlace := mk Try.func156 (by kernel_rfl) [((92, 0), E_sl1In)] [] [] {} ⟨ok_sl1In, trivial⟩ trivial (fun x => by kernel_rfl)
noncomputable def E_sOutPlace : Entry := ⟨aV (rOne rI), qV rI, fun (x : Int) => S_sOutPlace x⟩
theorem ok_sOutPlace : Ok 157 E_sOutPlace := mk Try.func157 (by kernel_rfl) [((92, 0), E_sl1In)] [] [] {} ⟨ok_sl1In, trivial⟩ trivial (fun x => by kernel_rfl)
noncomputable def E_sInterleave : Entry := ⟨aV (rCo rI (rCo rI (rCo rI (rOne rI)))), qV rB, fun (x : (Int × Int × Int × Int)) => S_sInterleave x.1 x.2.1 x.2.2.1 x.2.2.2⟩
theorem ok_sInterleave : Ok 155 E_sInterleave := mk Try.func155 (by kernel_rfl) [((92, 0), E_sl1In)] [] [(3, iR)] { tk := [(1, 5)], lv := [(3, ⟨[0, 1, 2, 3, 9, 10], [], [], pV (rCo rI (rCo rI (rCo rI (rCo rI (rCo (rX .own 1 iR) (rOne rI))))))⟩), (6, ⟨[0, 1, 2, 3, 9, 10, 11], [], [], pV (rCo rI (rCo rI (rCo rI (rCo rI (rCo (rX .own 1 iR) (rCo rI (rOne rI)))))))⟩), (14, ⟨[1, 2, 3, 12, 13], [], [], pV (rCo rI (rCo rI (rCo rI (rCo rI (rOne rI)))))⟩)] } ⟨ok_sl1In, trivial⟩ trivial (fun x => by kernel_rfl)
noncomputable def E_sConflict : Entry := ⟨aV (rCo (rAg pathR) (rOne (rAg pathR))), qV rB, fun (x : (Path × Path)) => S_sConflict x.1 x.2⟩
theorem ok_sConflict : Ok 106 E_sConflict := mk Try.func106 (by kernel_rfl) [((154, 0), E_sIsPath), ((156, 0), E_sInPlace), ((157, 0), E_sOutPlace), ((155, 0), E_sInterleave)] [] [] {} ⟨ok_sIsPath, ok_sInPlace, ok_sOutPlace, ok_sInterleave, trivial⟩ trivial (fun x => by kernel_rfl)
noncomputable def E_sArePaths : Entry := ⟨aV (rOne (rX .shr 4 pathR)), qV rB, fun (x : (List Path)) => S_sArePaths x⟩
theorem ok_sArePaths : Ok 114 E_sArePaths := mk Try.func114 (by kernel_rfl) [((154, 0), E_sIsPath)] [] [(83, pathR)] { lv := [(2, ⟨[0, 3], [], [], pV (rCo (rX .shr 4 pathR) (rOne rI))⟩)] } ⟨ok_sIsPath, trivial⟩ trivial (fun x => by kernel_rfl)
noncomputable def E_sIsTogether : Entry := ⟨aV (rCo (rX .shr 4 pathR) (rOne (rX .shr 1 iR))), qV rB, fun (x : ((List Path) × (List Int))) => S_sIsTogether x.1 x.2⟩
theorem ok_sIsTogether : Ok 119 E_sIsTogether := mk Try.func119 (by kernel_rfl) [((123, 0), E_sFindPath), ((106, 0), E_sConflict), ((114, 0), E_sArePaths)] [] [(3, iR), (83, pathR)] { lv := [(2, ⟨[0, 1, 5], [], [], pV (rCo (rX .shr 4 pathR) (rCo (rX .shr 1 iR) (rOne rI)))⟩), (8, ⟨[0, 1, 5, 6, 7], [], [], pV (rCo (rX .shr 4 pathR) (rCo (rX .shr 1 iR) (rCo rI (rCo rI (rOne rI)))))⟩)] } ⟨ok_sFindPath, ok_sConflict, ok_sArePaths, trivial⟩ trivial (fun x => by kernel_rfl)
noncomputable def E_sLeastGreen : Entry := ⟨aV (rCo (rX .shr 4 pathR) (rOne (rX .shr 1 iR))), qV rI, fun (x : ((List Path) × (List Int))) => S_sLeastGreen x.1 x.2⟩
theorem ok_sLeastGreen : Ok 120 E_sLeastGreen := mk Try.func120 (by kernel_rfl) [((123, 0), E_sFindPath)] [] [(3, iR), (83, pathR)] { lv := [(2, ⟨[0, 1, 5], [], [], pV (rCo (rX .shr 4 pathR) (rCo (rX .shr 1 iR) (rOne rI)))⟩)] } ⟨ok_sFindPath, trivial⟩ trivial (fun x => by kernel_rfl)
noncomputable def E_sl8Stages : Entry := ⟨aV (rOne (rX .shr 2 (partR .shr))), qV (rX .own 1 (rOne (rX .shr 1 iR))), fun (x : (List Part)) => S_sl8Stages x⟩
theorem ok_sl8Stages : Ok 122 E_sl8Stages := mk Try.func122 (by kernel_rfl) [] [] [(88, (partR .shr))] { tk := [(1, 1), (5, 0), (5, 7), (5, 8), (6, 0), (6, 1)], lv := [(3, ⟨[0, 3, 4], [], [], pV (rCo (rX .shr 2 (partR .shr)) (rCo (rX .own 1 (rOne (rX .shr 1 iR))) (rOne rI)))⟩)] } trivial trivial (fun x => by kernel_rfl)
noncomputable def E_sl6Has : Entry := ⟨aV (rCo (rX .shr 1 iR) (rOne rI)), qV rB, fun (x : ((List Int) × Int)) => S_sl6Has x.1 x.2⟩
theorem ok_sl6Has : Ok 133 E_sl6Has := mk Try.func133 (by kernel_rfl) [] [] [(3, iR)] { lv := [(2, ⟨[0, 1, 5], [], [], pV (rCo (rX .shr 1 iR) (rCo rI (rOne rI)))⟩)] } trivial trivial (fun x => by kernel_rfl)
noncomputable def E_sCovers : Entry := ⟨aV (rCo (rX .shr 4 pathR) (rOne (rX .shr 1 (rOne (rX .shr 1 iR))))), qV rB, fun (x : ((List Path) × (List (List Int)))) => S_sCovers x.1 x.2⟩
theorem ok_sCovers : Ok 121 E_sCovers := mk Try.func121 (by kernel_rfl) [((119, 0), E_sIsTogether), ((133, 0), E_sl6Has), ((114, 0), E_sArePaths)] [] [(40, (rOne (rX .shr 1 iR))), (83, pathR)] { lv := [(2, ⟨[0, 1, 5], [], [], pV (rCo (rX .shr 4 pathR) (rCo (rX .shr 1 (rOne (rX .shr 1 iR))) (rOne rI)))⟩), (7, ⟨[0, 1, 6], [], [], pV (rCo (rX .shr 4 pathR) (rCo (rX .shr 1 (rOne (rX .shr 1 iR))) (rOne rI)))⟩), (11, ⟨[0, 1, 6, 7, 8], [], [], pV (rCo (rX .shr 4 pathR) (rCo (rX .shr 1 (rOne (rX .shr 1 iR))) (rCo rI (rCo rB (rOne rI)))))⟩)] } ⟨ok_sIsTogether, ok_sl6Has, ok_sArePaths, trivial⟩ trivial (fun x => by kernel_rfl)
noncomputable def E_sIsPlan : Entry := ⟨aV (rCo (rX .shr 4 pathR) (rOne (rX .shr 2 (partR .shr)))), qV rB, fun (x : ((List Path) × (List Part))) => S_sIsPlan x.1 x.2⟩
theorem ok_sIsPlan : Ok 58 E_sIsPlan := mk Try.func58 (by kernel_rfl) [((92, 0), E_sl1In), ((119, 0), E_sIsTogether), ((120, 0), E_sLeastGreen), ((122, 0), E_sl8Stages), ((121, 0), E_sCovers)] [] [(88, (partR .shr))] { lv := [(4, ⟨[0, 1, 5], [], [], pV (rCo (rX .shr 4 pathR) (rCo (rX .shr 2 (partR .shr)) (rOne rI)))⟩)] } ⟨ok_sl1In, ok_sIsTogether, ok_sLeastGreen, ok_sl8Stages, ok_sCovers, trivial⟩ trivial (fun x => by kernel_rfl)
noncomputable def E_sCloses : Entry := ⟨aV (rCo (rX .shr 1 iR) (rOne (rX .shr 1 iR))), qV (rX .own 1 iR), fun (x : ((List Int) × (List Int))) => S_sCloses x.1 x.2⟩
theorem ok_sCloses : Ok 178 E_sCloses := mk Try.func178 (by kernel_rfl) [((133, 0), E_sl6Has)] [] [(3, iR)] { tk := [(1, 1), (6, 0), (6, 6), (6, 7), (7, 0), (7, 1)], lv := [(3, ⟨[0, 1, 5, 6], [], [], pV (rCo (rX .shr 1 iR) (rCo (rX .shr 1 iR) (rCo (rX .own 1 iR) (rOne rI))))⟩)] } ⟨ok_sl6Has, trivial⟩ trivial (fun x => by kernel_rfl)
noncomputable def E_sClearOf : Entry := ⟨aV (rOne (rAg pathR)), qV rI, fun (x : Path) => S_sClearOf x⟩
theorem ok_sClearOf : Ok 179 E_sClearOf := mk Try.func179 (by kernel_rfl) [((154, 0), E_sIsPath)] [] [(3, iR)] {} ⟨ok_sIsPath, trivial⟩ trivial (fun x => by kernel_rfl)
noncomputable def E_sMax : Entry := ⟨aV (rCo rI (rOne rI)), qV rI, fun (x : (Int × Int)) => S_sMax x.1 x.2⟩
theorem ok_sMax : Ok 168 E_sMax := mk Try.func168 (by kernel_rfl) [] [] [] {} trivial trivial (fun x => by kernel_rfl)
noncomputable def E_sClearBetween : Entry := ⟨aV (rCo (rX .shr 4 pathR) (rCo (rX .shr 1 iR) (rOne (rX .shr 1 iR)))), qV rI, fun (x : ((List Path) × (List Int) × (List Int))) => S_sClearBetween x.1 x.2.1 x.2.2⟩
theorem ok_sClearBetween : Ok 142 E_sClearBetween := mk Try.func142 (by kernel_rfl) [((178, 0), E_sCloses), ((119, 0), E_sIsTogether), ((123, 0), E_sFindPath), ((106, 0), E_sConflict), ((179, 0), E_sClearOf), ((168, 0), E_sMax)] [] [(3, iR), (83, pathR)] { tk := [(2, 3), (3, 3)], lv := [(5, ⟨[0, 1, 2, 7, 8, 9, 10], [], [], pV (rCo (rX .shr 4 pathR) (rCo (rX .shr 1 iR) (rCo (rX .shr 1 iR) (rCo rI (rCo (rX .own 1 iR) (rCo (rX .own 1 iR) (rOne rI)))))))⟩), (8, ⟨[0, 1, 2, 7, 8, 9, 10, 11], [], [], pV (rCo (rX .shr 4 pathR) (rCo (rX .shr 1 iR) (rCo (rX .shr 1 iR) (rCo rI (rCo (rX .own 1 iR) (rCo (rX .own 1 iR) (rCo rI (rOne rI))))))))⟩)] } ⟨ok_sCloses, ok_sIsTogether, ok_sFindPath, ok_sConflict, ok_sClearOf, ok_sMax, trivial⟩ trivial (fun x => by kernel_rfl)
noncomputable def E_sl8Long : Entry := ⟨aV (rCo (rX .shr 4 pathR) (rCo (rX .shr 2 (partR .shr)) (rOne rI))), qV rI, fun (x : ((List Path) × (List Part) × Int)) => S_sl8Long x.1 x.2.1 x.2.2⟩
theorem ok_sl8Long : Ok 170 E_sl8Long := mk Try.func170 (by kernel_rfl) [((142, 0), E_sClearBetween)] [] [(88, (partR .shr))] {} ⟨ok_sClearBetween, trivial⟩ trivial (fun x => by kernel_rfl)
noncomputable def E_sl9Light : Entry := ⟨aV (rCo (rX .shr 4 pathR) (rCo (rX .shr 2 (partR .shr)) (rCo rI (rCo rI (rOne rI))))), qV rI, fun (x : ((List Path) × (List Part) × Int × Int × Int)) => S_sl9Light x.1 x.2.1 x.2.2.1 x.2.2.2.1 x.2.2.2.2⟩
theorem ok_sl9Light : Ok 196 E_sl9Light := mk Try.func196 (by kernel_rfl) [((133, 0), E_sl6Has), ((123, 0), E_sFindPath), ((179, 0), E_sClearOf)] [] [(83, pathR), (88, (partR .shr))] {} ⟨ok_sl6Has, ok_sFindPath, ok_sClearOf, trivial⟩ trivial (fun x => by kernel_rfl)
noncomputable def E_sl9Row : Entry := ⟨aV (rCo (rX .shr 4 pathR) (rCo (rX .shr 2 (partR .shr)) (rOne rI))), qV (rX .own 1 iR), fun (x : ((List Path) × (List Part) × Int)) => S_sl9Row x.1 x.2.1 x.2.2⟩
theorem ok_sl9Row : Ok 167 E_sl9Row := mk Try.func167 (by kernel_rfl) [((58, 0), E_sIsPlan), ((123, 0), E_sFindPath), ((170, 0), E_sl8Long), ((196, 0), E_sl9Light)] [] [] { tk := [(1, 1), (3, 0), (3, 1), (10, 0), (10, 8), (10, 9), (11, 0), (11, 1)], lv := [(5, ⟨[0, 1, 2, 7, 8], [], [], pV (rCo (rX .shr 4 pathR) (rCo (rX .shr 2 (partR .shr)) (rCo rI (rCo (rX .own 1 iR) (rOne rI)))))⟩), (8, ⟨[0, 1, 2, 7, 8, 9], [], [], pV (rCo (rX .shr 4 pathR) (rCo (rX .shr 2 (partR .shr)) (rCo rI (rCo (rX .own 1 iR) (rCo rI (rOne rI))))))⟩)] } ⟨ok_sIsPlan, ok_sFindPath, ok_sl8Long, ok_sl9Light, trivial⟩ trivial (fun x => by kernel_rfl)
noncomputable def E_sGreenOf : Entry := ⟨aV (rCo (rX .shr 4 pathR) (rCo (rX .shr 2 (partR .shr)) (rOne rI))), qV rI, fun (x : ((List Path) × (List Part) × Int)) => S_sGreenOf x.1 x.2.1 x.2.2⟩
theorem ok_sGreenOf : Ok 124 E_sGreenOf := mk Try.func124 (by kernel_rfl) [((167, 0), E_sl9Row)] [] [(3, iR)] { tk := [(2, 4)], lv := [(4, ⟨[7, 8, 9], [], [], pV (rCo rI (rCo (rX .own 1 iR) (rOne rI)))⟩)] } ⟨ok_sl9Row, trivial⟩ trivial (fun x => by kernel_rfl)
noncomputable def E_sMin : Entry := ⟨aV (rCo rI (rOne rI)), qV rI, fun (x : (Int × Int)) => S_sMin x.1 x.2⟩
theorem ok_sMin : Ok 169 E_sMin := mk Try.func169 (by kernel_rfl) [] [] [] {} trivial trivial (fun x => by kernel_rfl)
noncomputable def E_sWaitOf : Entry := ⟨aV (rCo (rX .shr 4 pathR) (rCo (rX .shr 2 (partR .shr)) (rOne rI))), qV rI, fun (x : ((List Path) × (List Part) × Int)) => S_sWaitOf x.1 x.2.1 x.2.2⟩
theorem ok_sWaitOf : Ok 125 E_sWaitOf := mk Try.func125 (by kernel_rfl) [((167, 0), E_sl9Row), ((168, 0), E_sMax), ((169, 0), E_sMin)] [] [(3, iR)] { tk := [(1, 4), (11, 1)], lv := [(5, ⟨[7, 8, 9, 10], [], [], pV (rCo (rX .own 1 iR) (rCo rI (rCo rI (rOne rI))))⟩)] } ⟨ok_sl9Row, ok_sMax, ok_sMin, trivial⟩ trivial (fun x => by kernel_rfl)
noncomputable def E_sCycle : Entry := ⟨aV (rCo (rX .shr 4 pathR) (rOne (rX .shr 2 (partR .shr)))), qV rI, fun (x : ((List Path) × (List Part))) => S_sCycle x.1 x.2⟩
theorem ok_sCycle : Ok 126 E_sCycle := mk Try.func126 (by kernel_rfl) [((58, 0), E_sIsPlan), ((170, 0), E_sl8Long)] [] [] { lv := [(3, ⟨[0, 1, 5, 6], [], [], pV (rCo (rX .shr 4 pathR) (rCo (rX .shr 2 (partR .shr)) (rCo rI (rOne rI))))⟩)] } ⟨ok_sIsPlan, ok_sl8Long, trivial⟩ trivial (fun x => by kernel_rfl)
noncomputable def E_sServiceOf : Entry := ⟨aV (rCo (rX .shr 4 pathR) (rCo (rX .shr 2 (partR .shr)) (rOne rI))), qV (rTu (rCo (rAg serviceR) (rOne rB))), fun (x : ((List Path) × (List Part) × Int)) => S_sServiceOf x.1 x.2.1 x.2.2⟩
theorem ok_sServiceOf : Ok 59 E_sServiceOf := mk Try.func59 (by kernel_rfl) [((58, 0), E_sIsPlan), ((123, 0), E_sFindPath), ((124, 0), E_sGreenOf), ((125, 0), E_sWaitOf), ((126, 0), E_sCycle)] [] [] {} ⟨ok_sIsPlan, ok_sFindPath, ok_sGreenOf, ok_sWaitOf, ok_sCycle, trivial⟩ trivial (fun x => by kernel_rfl)
noncomputable def E_sAllServices : Entry := ⟨aV (rCo (rX .shr 4 pathR) (rOne (rX .shr 2 (partR .shr)))), qV (rX .own 4 serviceR), fun (x : ((List Path) × (List Part))) => S_sAllServices x.1 x.2⟩
theorem ok_sAllServices : Ok 30 E_sAllServices := mk Try.func30 (by kernel_rfl) [((58, 0), E_sIsPlan), ((59, 0), E_sServiceOf)] [] [(83, pathR)] { tk := [(1, 1), (6, 0), (6, 3), (6, 4), (7, 0), (7, 1)], lv := [(3, ⟨[0, 1, 5, 6], [], [], pV (rCo (rX .shr 4 pathR) (rCo (rX .shr 2 (partR .shr)) (rCo (rX .own 4 serviceR) (rOne rI))))⟩)] } ⟨ok_sIsPlan, ok_sServiceOf, trivial⟩ trivial (fun x => by kernel_rfl)
noncomputable def E_iInRange : Entry := ⟨aV (rCo rI (rCo rI (rOne rI))), qV rB, fun (x : (Int × Int × Int)) => S_iInRange x.1 x.2.1 x.2.2⟩
theorem ok_iInRange : Ok 99 E_iInRange := mk Try.func99 (by kernel_rfl) [] [] [] {} trivial trivial (fun x => by kernel_rfl)
noncomputable def E_iIsPath : Entry := ⟨aV (rOne (rAg pathR)), qV rB, fun (x : Path) => S_iIsPath x⟩
theorem ok_iIsPath : Ok 159 E_iIsPath := mk Try.func159 (by kernel_rfl) [((99, 0), E_iInRange)] [] [] {} ⟨ok_iInRange, trivial⟩ trivial (fun x => by kernel_rfl)
noncomputable def E_iArePaths : Entry := ⟨aV (rOne (rX .shr 4 pathR)), qV rB, fun (x : (List Path)) => S_iArePaths x⟩
theorem ok_iArePaths : Ok 116 E_iArePaths := mk Try.func116 (by kernel_rfl) [((159, 0), E_iIsPath)] [] [(83, pathR)] { lv := [(4, ⟨[0, 8, 9, 10], [], [], pV (rCo (rX .shr 4 pathR) (rCo (rX .shr 4 pathR) (rCo rI (rOne rI))))⟩)] } ⟨ok_iIsPath, trivial⟩ trivial (fun x => by kernel_rfl)
noncomputable def E_iFindPath_1 : Entry := ⟨aV (rCo (rAg pathR) (rOne (rRp iR))), qV rB, fun (x : (Path × Int)) => S_iFindPath_1 x.1 x.2⟩
theorem ok_iFindPath_1 : Ok 113 E_iFindPath_1 := mk Try.func113 (by kernel_rfl) [] [] [] {} trivial trivial (fun x => by kernel_rfl)
noncomputable def E_slices_IndexFunc_loop_example_g03006_impl_Path_loop_example_g03006_impl_Path : Entry := ⟨aV (rCo (rX .shr 4 pathR) (rOne (rFn 113 (rOne (rRp iR))))), qV rI, fun (x : ((List Path) × Int)) => S_slices_IndexFunc_loop_example_g03006_impl_Path_loop_example_g03006_impl_Path x.1 x.2⟩
theorem ok_slices_IndexFunc_loop_example_g03006_impl_Path_loop_example_g03006_impl_Path : Ok 112 E_slices_IndexFunc_loop_example_g03006_impl_Path_loop_example_g03006_impl_Path := mk Try.func112 (by kernel_rfl) [((113, 0), E_iFindPath_1)] [] [(83, pathR)] { lv := [(2, ⟨[0, 1, 7, 8], [], [], pV (rCo (rX .shr 4 pathR) (rCo (rFn 113 (rOne (rRp iR))) (rCo rI (rOne rI))))⟩)] } ⟨ok_iFindPath_1, trivial⟩ trivial (fun x => by kernel_rfl)
noncomputable def E_iFindPath : Entry := ⟨aV (rCo (rX .shr 4 pathR) (rOne rI)), qV rI, fun (x : ((List Path) × Int)) => S_iFindPath x.1 x.2⟩
theorem ok_iFindPath : Ok 52 E_iFindPath := mk Try.func52 (by kernel_rfl) [((112, 0), E_slices_IndexFunc_loop_example_g03006_impl_Path_loop_example_g03006_impl_Path)] [] [] {} ⟨ok_slices_IndexFunc_loop_example_g03006_impl_Path_loop_example_g03006_impl_Path, trivial⟩ trivial (fun x => by kernel_rfl)
noncomputable def E_iInPlace : Entry := ⟨aV (rOne rI), qV rI, fun (x : Int) => S_iInPlace x⟩
theorem ok_iInPlace : Ok 161 E_iInPlace := mk Try.func161 (by kernel_rfl) [((99, 0), E_iInRange)] [] [] {} ⟨ok_iInRange, trivial⟩ trivial (fun x => by kernel_rfl)
noncomputable def E_iOutPlace : Entry := ⟨aV (rOne rI), qV rI, fun (x : Int) => S_iOutPlace x⟩
theorem ok_iOutPlace : Ok 162 E_iOutPlace := mk Try.func162 (by kernel_rfl) [((99, 0), E_iInRange)] [] [] {} ⟨ok_iInRange, trivial⟩ trivial (fun x => by kernel_rfl)
noncomputable def E_iInterleave : Entry := ⟨aV (rCo rI (rCo rI (rCo rI (rOne rI)))), qV rB, fun (x : (Int × Int × Int × Int)) => S_iInterleave x.1 x.2.1 x.2.2.1 x.2.2.2⟩
theorem ok_iInterleave : Ok 160 E_iInterleave := mk Try.func160 (by kernel_rfl) [((99, 0), E_iInRange)] [] [(3, iR)] { lv := [(2, ⟨[0, 1, 2, 3, 16, 17, 18], [], [], pV (rCo rI (rCo rI (rCo rI (rCo rI (rCo (rX .own 1 iR) (rCo rI (rOne rI)))))))⟩)] } ⟨ok_iInRange, trivial⟩ trivial (fun x => by kernel_rfl)
noncomputable def E_iConflict : Entry := ⟨aV (rCo (rAg pathR) (rOne (rAg pathR))), qV rB, fun (x : (Path × Path)) => S_iConflict x.1 x.2⟩
theorem ok_iConflict : Ok 109 E_iConflict := mk Try.func109 (by kernel_rfl) [((159, 0), E_iIsPath), ((161, 0), E_iInPlace), ((162, 0), E_iOutPlace), ((160, 0), E_iInterleave)] [] [] {} ⟨ok_iIsPath, ok_iInPlace, ok_iOutPlace, ok_iInterleave, trivial⟩ trivial (fun x => by kernel_rfl)
noncomputable def E_iIsTogether : Entry := ⟨aV (rCo (rX .shr 4 pathR) (rOne (rX .shr 1 iR))), qV rB, fun (x : ((List Path) × (List Int))) => S_iIsTogether x.1 x.2⟩
theorem ok_iIsTogether : Ok 145 E_iIsTogether := mk Try.func145 (by kernel_rfl) [((116, 0), E_iArePaths), ((52, 0), E_iFindPath), ((109, 0), E_iConflict)] [] [(3, iR), (83, pathR)] { lv := [(4, ⟨[0, 1, 13, 14, 15], [], [], pV (rCo (rX .shr 4 pathR) (rCo (rX .shr 1 iR) (rCo (rX .shr 1 iR) (rCo rI (rOne rI)))))⟩), (10, ⟨[0, 1, 7, 13, 14, 15, 40, 41, 42], [], [], pV (rCo (rX .shr 4 pathR) (rCo (rX .shr 1 iR) (rCo rI (rCo (rX .shr 1 iR) (rCo rI (rCo rI (rCo (rX .shr 1 iR) (rCo rI (rOne rI)))))))))⟩)] } ⟨ok_iArePaths, ok_iFindPath, ok_iConflict, trivial⟩ trivial (fun x => by kernel_rfl)
noncomputable def E_iLeastGreen : Entry := ⟨aV (rCo (rX .shr 4 pathR) (rOne (rX .shr 1 iR))), qV rI, fun (x : ((List Path) × (List Int))) => S_iLeastGreen x.1 x.2⟩
theorem ok_iLeastGreen : Ok 171 E_iLeastGreen := mk Try.func171 (by kernel_rfl) [((52, 0), E_iFindPath)] [] [(3, iR), (83, pathR)] { lv := [(2, ⟨[0, 8, 9, 10], [], [], pV (rCo (rX .shr 4 pathR) (rCo (rX .shr 1 iR) (rCo rI (rOne rI))))⟩)] } ⟨ok_iFindPath, trivial⟩ trivial (fun x => by kernel_rfl)
noncomputable def E_slices_Index_int_int : Entry := ⟨aV (rCo (rX .shr 1 iR) (rOne rI)), qV rI, fun (x : ((List Int) × Int)) => S_slices_Index_int_int x.1 x.2⟩
theorem ok_slices_Index_int_int : Ok 177 E_slices_Index_int_int := mk Try.func177 (by kernel_rfl) [] [] [(3, iR)] { lv := [(2, ⟨[0, 1, 7, 8], [], [], pV (rCo (rX .shr 1 iR) (rCo rI (rCo rI (rOne rI))))⟩)] } trivial trivial (fun x => by kernel_rfl)
noncomputable def E_slices_Contains_int_int : Entry := ⟨aV (rCo (rX .shr 1 iR) (rOne rI)), qV rB, fun (x : ((List Int) × Int)) => S_slices_Contains_int_int x.1 x.2⟩
theorem ok_slices_Contains_int_int : Ok 138 E_slices_Contains_int_int := mk Try.func138 (by kernel_rfl) [((177, 0), E_slices_Index_int_int)] [] [] {} ⟨ok_slices_Index_int_int, trivial⟩ trivial (fun x => by kernel_rfl)
noncomputable def E_iisCovered_1 : Entry := ⟨aV (rCo (rX .shr 1 iR) (rOne (rRp iR))), qV rB, fun (x : ((List Int) × Int)) => S_iisCovered_1 x.1 x.2⟩
theorem ok_iisCovered_1 : Ok 210 E_iisCovered_1 := mk Try.func210 (by kernel_rfl) [((138, 0), E_slices_Contains_int_int)] [] [] {} ⟨ok_slices_Contains_int_int, trivial⟩ trivial (fun x => by kernel_rfl)
noncomputable def E_slices_IndexFunc_int_int : Entry := ⟨aV (rCo (rX .shr 1 (rOne (rX .shr 1 iR))) (rOne (rFn 210 (rOne (rRp iR))))), qV rI, fun (x : ((List (List Int)) × Int)) => S_slices_IndexFunc_int_int x.1 x.2⟩
theorem ok_slices_IndexFunc_int_int : Ok 214 E_slices_IndexFunc_int_int := mk Try.func214 (by kernel_rfl) [((210, 0), E_iisCovered_1)] [] [(40, (rOne (rX .shr 1 iR)))] { lv := [(2, ⟨[0, 1, 7, 8], [], [], pV (rCo (rX .shr 1 (rOne (rX .shr 1 iR))) (rCo (rFn 210 (rOne (rRp iR))) (rCo rI (rOne rI))))⟩)] } ⟨ok_iisCovered_1, trivial⟩ trivial (fun x => by kernel_rfl)
noncomputable def E_slices_ContainsFunc_int_int : Entry := ⟨aV (rCo (rX .shr 1 (rOne (rX .shr 1 iR))) (rOne (rFn 210 (rOne (rRp iR))))), qV rB, fun (x : ((List (List Int)) × Int)) => S_slices_ContainsFunc_int_int x.1 x.2⟩
theorem ok_slices_ContainsFunc_int_int : Ok 209 E_slices_ContainsFunc_int_int := mk Try.func209 (by kernel_rfl) [((214, 0), E_slices_IndexFunc_int_int)] [] [] {} ⟨ok_slices_IndexFunc_int_int, trivial⟩ trivial (fun x => by kernel_rfl)
noncomputable def E_iisCovered : Entry := ⟨aV (rCo (rX .shr 1 (rOne (rX .shr 1 iR))) (rOne rI)), qV rB, fun (x : ((List (List Int)) × Int)) => S_iisCovered x.1 x.2⟩
theorem ok_iisCovered : Ok 197 E_iisCovered := mk Try.func197 (by kernel_rfl) [((209, 0), E_slices_ContainsFunc_int_int)] [] [] {} ⟨ok_slices_ContainsFunc_int_int, trivial⟩ trivial (fun x => by kernel_rfl)
noncomputable def E_iCovers : Entry := ⟨aV (rCo (rX .shr 4 pathR) (rOne (rX .shr 1 (rOne (rX .shr 1 iR))))), qV rB, fun (x : ((List Path) × (List (List Int)))) => S_iCovers x.1 x.2⟩
theorem ok_iCovers : Ok 172 E_iCovers := mk Try.func172 (by kernel_rfl) [((116, 0), E_iArePaths), ((145, 0), E_iIsTogether), ((197, 0), E_iisCovered)] [] [(40, (rOne (rX .shr 1 iR))), (83, pathR)] { lv := [(4, ⟨[0, 1, 12, 13, 14], [], [], pV (rCo (rX .shr 4 pathR) (rCo (rX .shr 1 (rOne (rX .shr 1 iR))) (rCo (rX .shr 1 (rOne (rX .shr 1 iR))) (rCo rI (rOne rI)))))⟩), (10, ⟨[1, 23, 24, 25], [], [], pV (rCo (rX .shr 1 (rOne (rX .shr 1 iR))) (rCo (rX .shr 4 pathR) (rCo rI (rOne rI))))⟩)] } ⟨ok_iArePaths, ok_iIsTogether, ok_iisCovered, trivial⟩ trivial (fun x => by kernel_rfl)
noncomputable def E_iIsPlan : Entry := ⟨aV (rCo (rX .shr 4 pathR) (rOne (rX .shr 2 (partR .shr)))), qV rB, fun (x : ((List Path) × (List Part))) => S_iIsPlan x.1 x.2⟩
theorem ok_iIsPlan : Ok 127 E_iIsPlan := mk Try.func127 (by kernel_rfl) [((99, 0), E_iInRange), ((145, 0), E_iIsTogether), ((171, 0), E_iLeastGreen), ((172, 0), E_iCovers)] [] [(88, (partR .shr))] { tk := [(3, 1), (9, 0), (9, 4), (9, 5), (11, 1)], lv := [(5, ⟨[0, 5, 13, 14, 15], [], [], pV (rCo (rX .shr 4 pathR) (rCo (rX .own 1 (rOne (rX .shr 1 iR))) (rCo (rX .shr 2 (partR .shr)) (rCo rI (rOne rI)))))⟩)] } ⟨ok_iInRange, ok_iIsTogether, ok_iLeastGreen, ok_iCovers, trivial⟩ trivial (fun x => by kernel_rfl)
noncomputable def E_inextStage : Entry := ⟨aV (rCo (rX .shr 2 (partR .shr)) (rOne rI)), qV (rX .shr 1 iR), fun (x : ((List Part) × Int)) => S_inextStage x.1 x.2⟩
theorem ok_inextStage : Ok 199 E_inextStage := mk Try.func199 (by kernel_rfl) [] [] [(88, (partR .shr))] {} trivial trivial (fun x => by kernel_rfl)
noncomputable def E_isieve : Entry := ⟨aV (rCo (rX .shr 1 iR) (rCo (rX .shr 1 iR) (rOne rB))), qV (rX .own 1 iR), fun (x : ((List Int) × (List Int) × Bool)) => S_isieve x.1 x.2.1 x.2.2⟩
theorem ok_isieve : Ok 202 E_isieve := mk Try.func202 (by kernel_rfl) [((138, 0), E_slices_Contains_int_int)] [] [(3, iR)] { tk := [(1, 1), (6, 0), (6, 3), (6, 4), (8, 0), (8, 1)], lv := [(3, ⟨[1, 2, 7, 11, 12, 13], [], [], pV (rCo (rX .shr 1 iR) (rCo rB (rCo (rX .own 1 iR) (rCo (rX .shr 1 iR) (rCo rI (rOne rI))))))⟩)] } ⟨ok_slices_Contains_int_int, trivial⟩ trivial (fun x => by kernel_rfl)
noncomputable def E_iCloses : Entry := ⟨aV (rCo (rX .shr 1 iR) (rOne (rX .shr 1 iR))), qV (rX .own 1 iR), fun (x : ((List Int) × (List Int))) => S_iCloses x.1 x.2⟩
theorem ok_iCloses : Ok 181 E_iCloses := mk Try.func181 (by kernel_rfl) [((202, 0), E_isieve)] [] [] { tk := [(1, 3)] } ⟨ok_isieve, trivial⟩ trivial (fun x => by kernel_rfl)
noncomputable def E_iClearOf : Entry := ⟨aV (rOne (rAg pathR)), qV rI, fun (x : Path) => S_iClearOf x⟩
theorem ok_iClearOf : Ok 182 E_iClearOf := mk Try.func182 (by kernel_rfl) [((159, 0), E_iIsPath)] [] [] {} ⟨ok_iIsPath, trivial⟩ trivial (fun x => by kernel_rfl)
noncomputable def E_iClearBetween : Entry := ⟨aV (rCo (rX .shr 4 pathR) (rCo (rX .shr 1 iR) (rOne (rX .shr 1 iR)))), qV rI, fun (x : ((List Path) × (List Int) × (List Int))) => S_iClearBetween x.1 x.2.1 x.2.2⟩
theorem ok_iClearBetween : Ok 146 E_iClearBetween := mk Try.func146 (by kernel_rfl) [((145, 0), E_iIsTogether), ((181, 0), E_iCloses), ((52, 0), E_iFindPath), ((109, 0), E_iConflict), ((182, 0), E_iClearOf)] [] [(3, iR), (83, pathR)] { lv := [(5, ⟨[0, 1, 2, 7, 26, 27, 28], [], [], pV (rCo (rX .shr 4 pathR) (rCo (rX .shr 1 iR) (rCo (rX .shr 1 iR) (rCo rI (rCo (rX .own 1 iR) (rCo rI (rOne rI)))))))⟩), (8, ⟨[0, 1, 2, 7, 9, 26, 27, 28, 34, 35, 36], [], [], pV (rCo (rX .shr 4 pathR) (rCo (rX .shr 1 iR) (rCo (rX .shr 1 iR) (rCo rI (rCo rI (rCo (rX .own 1 iR) (rCo rI (rCo rI (rCo (rX .own 1 iR) (rCo rI (rOne rI)))))))))))⟩)] } ⟨ok_iIsTogether, ok_iCloses, ok_iFindPath, ok_iConflict, ok_iClearOf, trivial⟩ trivial (fun x => by kernel_rfl)
noncomputable def E_ilongOf : Entry := ⟨aV (rCo (rX .shr 4 pathR) (rCo (rX .shr 2 (partR .shr)) (rOne rI))), qV rI, fun (x : ((List Path) × (List Part) × Int)) => S_ilongOf x.1 x.2.1 x.2.2⟩
theorem ok_ilongOf : Ok 174 E_ilongOf := mk Try.func174 (by kernel_rfl) [((199, 0), E_inextStage), ((146, 0), E_iClearBetween)] [] [(88, (partR .shr))] {} ⟨ok_inextStage, ok_iClearBetween, trivial⟩ trivial (fun x => by kernel_rfl)
noncomputable def E_iCycle : Entry := ⟨aV (rCo (rX .shr 4 pathR) (rOne (rX .shr 2 (partR .shr)))), qV rI, fun (x : ((List Path) × (List Part))) => S_iCycle x.1 x.2⟩
theorem ok_iCycle : Ok 130 E_iCycle := mk Try.func130 (by kernel_rfl) [((127, 0), E_iIsPlan), ((174, 0), E_ilongOf)] [] [] { lv := [(5, ⟨[0, 1, 5, 12, 13], [], [], pV (rCo (rX .shr 4 pathR) (rCo (rX .shr 2 (partR .shr)) (rCo rI (rCo rI (rOne rI)))))⟩)] } ⟨ok_iIsPlan, ok_ilongOf, trivial⟩ trivial (fun x => by kernel_rfl)
noncomputable def E_iPartAt : Entry := ⟨aV (rCo (rX .shr 4 pathR) (rCo (rX .shr 2 (partR .shr)) (rOne rI))), qV (rTu (rCo rI (rOne rI))), fun (x : ((List Path) × (List Part) × Int)) => S_iPartAt x.1 x.2.1 x.2.2⟩
theorem ok_iPartAt : Ok 215 E_iPartAt := mk Try.func215 (by kernel_rfl) [((130, 0), E_iCycle), ((99, 0), E_iInRange), ((174, 0), E_ilongOf)] [] [] { lv := [(6, ⟨[0, 1, 9, 10], [], [], pV (rCo (rX .shr 4 pathR) (rCo (rX .shr 2 (partR .shr)) (rCo rI (rOne rI))))⟩)] } ⟨ok_iCycle, ok_iInRange, ok_ilongOf, trivial⟩ trivial (fun x => by kernel_rfl)
noncomputable def E_ishown : Entry := ⟨aV (rCo (rX .shr 4 pathR) (rCo (rX .shr 2 (partR .shr)) (rCo rI (rOne (rAg pathR))))), qV rI, fun (x : ((List Path) × (List Part) × Int × Path)) => S_ishown x.1 x.2.1 x.2.2.1 x.2.2.2⟩
theorem ok_ishown : Ok 211 E_ishown := mk Try.func211 (by kernel_rfl) [((215, 0), E_iPartAt), ((138, 0), E_slices_Contains_int_int), ((199, 0), E_inextStage), ((182, 0), E_iClearOf)] [] [(88, (partR .shr))] {} ⟨ok_iPartAt, ok_slices_Contains_int_int, ok_inextStage, ok_iClearOf, trivial⟩ trivial (fun x => by kernel_rfl)
noncomputable def E_iLightAt : Entry := ⟨aV (rCo (rX .shr 4 pathR) (rCo (rX .shr 2 (partR .shr)) (rCo rI (rOne rI)))), qV rI, fun (x : ((List Path) × (List Part) × Int × Int)) => S_iLightAt x.1 x.2.1 x.2.2.1 x.2.2.2⟩
theorem ok_iLightAt : Ok 198 E_iLightAt := mk Try.func198 (by kernel_rfl) [((52, 0), E_iFindPath), ((211, 0), E_ishown)] [] [(83, pathR)] {} ⟨ok_iFindPath, ok_ishown, trivial⟩ trivial (fun x => by kernel_rfl)
noncomputable def E_igreens : Entry := ⟨aV (rCo (rX .shr 4 pathR) (rCo (rX .shr 2 (partR .shr)) (rOne rI))), qV (rX .own 1 bR), fun (x : ((List Path) × (List Part) × Int)) => S_igreens x.1 x.2.1 x.2.2⟩
theorem ok_igreens : Ok 173 E_igreens := mk Try.func173 (by kernel_rfl) [((52, 0), E_iFindPath), ((130, 0), E_iCycle), ((198, 0), E_iLightAt)] [] [] { ro := [(16, bR)], lv := [(5, ⟨[0, 1, 2, 18, 19], [(7, 16, true)], [(16, 1, true, false)], pVO (rCo (rX .shr 4 pathR) (rCo (rX .shr 2 (partR .shr)) (rCo rI (rCo rI (rOne rI))))) (oArr1 bR)⟩)] } ⟨ok_iFindPath, ok_iCycle, ok_iLightAt, trivial⟩ trivial (fun x => by kernel_rfl)
noncomputable def E_iGreenOf : Entry := ⟨aV (rCo (rX .shr 4 pathR) (rCo (rX .shr 2 (partR .shr)) (rOne rI))), qV rI, fun (x : ((List Path) × (List Part) × Int)) => S_iGreenOf x.1 x.2.1 x.2.2⟩
theorem ok_iGreenOf : Ok 128 E_iGreenOf := mk Try.func128 (by kernel_rfl) [((173, 0), E_igreens)] [] [(4, bR)] { lv := [(3, ⟨[7, 13, 14, 15], [], [], pV (rCo rI (rCo (rX .own 1 bR) (rCo rI (rOne rI))))⟩)] } ⟨ok_igreens, trivial⟩ trivial (fun x => by kernel_rfl)
noncomputable def E_iWaitOf : Entry := ⟨aV (rCo (rX .shr 4 pathR) (rCo (rX .shr 2 (partR .shr)) (rOne rI))), qV rI, fun (x : ((List Path) × (List Part) × Int)) => S_iWaitOf x.1 x.2.1 x.2.2⟩
theorem ok_iWaitOf : Ok 129 E_iWaitOf := mk Try.func129 (by kernel_rfl) [((173, 0), E_igreens)] [] [(4, bR)] { tk := [(1, 4), (11, 1)], lv := [(4, ⟨[7, 8, 9, 17, 18], [], [], pV (rCo (rX .own 1 bR) (rCo rI (rCo rI (rCo rI (rOne rI)))))⟩)] } ⟨ok_igreens, trivial⟩ trivial (fun x => by kernel_rfl)
noncomputable def E_iServiceOf : Entry := ⟨aV (rCo (rX .shr 4 pathR) (rCo (rX .shr 2 (partR .shr)) (rOne rI))), qV (rTu (rCo (rAg serviceR) (rOne rB))), fun (x : ((List Path) × (List Part) × Int)) => S_iServiceOf x.1 x.2.1 x.2.2⟩
theorem ok_iServiceOf : Ok 60 E_iServiceOf := mk Try.func60 (by kernel_rfl) [((127, 0), E_iIsPlan), ((52, 0), E_iFindPath), ((128, 0), E_iGreenOf), ((129, 0), E_iWaitOf), ((130, 0), E_iCycle)] [] [] {} ⟨ok_iIsPlan, ok_iFindPath, ok_iGreenOf, ok_iWaitOf, ok_iCycle, trivial⟩ trivial (fun x => by kernel_rfl)
noncomputable def E_iAllServices : Entry := ⟨aV (rCo (rX .shr 4 pathR) (rOne (rX .shr 2 (partR .shr)))), qV (rX .own 4 serviceR), fun (x : ((List Path) × (List Part))) => S_iAllServices x.1 x.2⟩
theorem ok_iAllServices : Ok 31 E_iAllServices := mk Try.func31 (by kernel_rfl) [((60, 0), E_iServiceOf)] [] [(83, pathR)] { tk := [(1, 1), (7, 0), (7, 3), (7, 4), (9, 0), (9, 1)], lv := [(3, ⟨[0, 1, 5, 11, 12, 13], [], [], pV (rCo (rX .shr 4 pathR) (rCo (rX .shr 2 (partR .shr)) (rCo (rX .own 4 serviceR) (rCo (rX .shr 4 pathR) (rCo rI (rOne rI))))))⟩)] } ⟨ok_iServiceOf, trivial⟩ trivial (fun x => by kernel_rfl)
noncomputable def E_leqService : Entry := ⟨aV (rCo (rAg serviceR) (rOne (rAg serviceR))), qV rB, fun (x : (Service × Service)) => S_leqService x.1 x.2⟩
theorem ok_leqService : Ok 61 E_leqService := mk Try.func61 (by kernel_rfl) [] [] [] {} trivial trivial (fun x => by kernel_rfl)
noncomputable def E_leqServiceS : Entry := ⟨aV (rCo (rX .shr 4 serviceR) (rOne (rX .shr 4 serviceR))), qV rB, fun (x : ((List Service) × (List Service))) => S_leqServiceS x.1 x.2⟩
theorem ok_leqServiceS : Ok 32 E_leqServiceS := mk Try.func32 (by kernel_rfl) [((61, 0), E_leqService)] [] [(85, serviceR)] { lv := [(4, ⟨[0, 1, 5], [], [], pV (rCo (rX .shr 4 serviceR) (rCo (rX .shr 4 serviceR) (rOne rI)))⟩)] } ⟨ok_leqService, trivial⟩ trivial (fun x => by kernel_rfl)
noncomputable def E_leqIntS : Entry := ⟨aV (rCo (rX .shr 1 iR) (rOne (rX .shr 1 iR))), qV rB, fun (x : ((List Int) × (List Int))) => S_leqIntS x.1 x.2⟩
theorem ok_leqIntS : Ok 27 E_leqIntS := mk Try.func27 (by kernel_rfl) [] [] [(3, iR)] { lv := [(4, ⟨[0, 1, 5], [], [], pV (rCo (rX .shr 1 iR) (rCo (rX .shr 1 iR) (rOne rI)))⟩)] } trivial trivial (fun x => by kernel_rfl)
noncomputable def E_leqPart : Entry := ⟨aV (rCo (rAg (partR .shr)) (rOne (rAg (partR .shr)))), qV rB, fun (x : (Part × Part)) => S_leqPart x.1 x.2⟩
theorem ok_leqPart : Ok 54 E_leqPart := mk Try.func54 (by kernel_rfl) [((27, 0), E_leqIntS)] [] [] {} ⟨ok_leqIntS, trivial⟩ trivial (fun x => by kernel_rfl)
noncomputable def E_leqPartS : Entry := ⟨aV (rCo (rX .shr 2 (partR .shr)) (rOne (rX .shr 2 (partR .shr)))), qV rB, fun (x : ((List Part) × (List Part))) => S_leqPartS x.1 x.2⟩
theorem ok_leqPartS : Ok 18 E_leqPartS := mk Try.func18 (by kernel_rfl) [((54, 0), E_leqPart)] [] [(88, (partR .shr))] { lv := [(4, ⟨[0, 1, 5], [], [], pV (rCo (rX .shr 2 (partR .shr)) (rCo (rX .shr 2 (partR .shr)) (rOne rI)))⟩)] } ⟨ok_leqPart, trivial⟩ trivial (fun x => by kernel_rfl)
noncomputable def E_lmarkIntS : Entry := ⟨aV (rCo (rX .unq 1 iR) (rOne rI)), qV (rTu (rCo rI (rOne (rX .unq 1 iR)))), fun (x : ((List Int) × Int)) => S_lmarkIntS x.1 x.2⟩
theorem ok_lmarkIntS : OkU 28 E_lmarkIntS := mkU Try.func28 (by kernel_rfl) [] [] [] { ro := [(0, iR)], lv := [(2, ⟨[1, 5], [(0, 0, true)], [(0, 1, true, false)], pVO (rCo rI (rOne rI)) (oArr1 iR)⟩)] } trivial trivial (fun x => by kernel_rfl)
noncomputable def E_lmarkPartS : Entry := ⟨aV (rCo (rX .unq 2 (partR .unq)) (rOne rI)), qV (rTu (rCo rI (rOne (rX .unq 2 (partR .unq))))), fun (x : ((List Part) × Int)) => S_lmarkPartS x.1 x.2⟩
theorem ok_lmarkPartS : OkU 33 E_lmarkPartS := mkU Try.func33 (by kernel_rfl) [] [((28, 0), E_lmarkIntS)] [] { hb := [((4, 4), 1), ((4, 6), 3)], ro := [(0, (partR .unq))], lv := [(2, ⟨[1, 5], [(0, 0, true)], [(0, 2, true, false)], pVO (rCo rI (rOne rI)) (oArr1 (partR .unq))⟩)] } trivial ⟨ok_lmarkIntS, trivial⟩ (fun x => by kernel_rfl)
noncomputable def E_lmarkServiceS : Entry := ⟨aV (rCo (rX .unq 4 serviceR) (rOne rI)), qV (rTu (rCo rI (rOne (rX .unq 4 serviceR)))), fun (x : ((List Service) × Int)) => S_lmarkServiceS x.1 x.2⟩
theorem ok_lmarkServiceS : OkU 34 E_lmarkServiceS := mkU Try.func34 (by kernel_rfl) [] [] [] { ro := [(0, serviceR)], lv := [(2, ⟨[1, 5], [(0, 0, true)], [(0, 4, true, false)], pVO (rCo rI (rOne rI)) (oArr1 serviceR)⟩)] } trivial trivial (fun x => by kernel_rfl)
noncomputable def E_lheldServiceS : Entry := ⟨aV (rCo (rX .shr 4 serviceR) (rOne rI)), qV rI, fun (x : ((List Service) × Int)) => S_lheldServiceS x.1 x.2⟩
theorem ok_lheldServiceS : Ok 35 E_lheldServiceS := mk Try.func35 (by kernel_rfl) [] [] [(85, serviceR)] { lv := [(2, ⟨[0, 1, 5], [], [], pV (rCo (rX .shr 4 serviceR) (rCo rI (rOne rI)))⟩)] } trivial trivial (fun x => by kernel_rfl)
noncomputable def E_lFnExactAllServices : Entry := ⟨aV (rCo (rX .shr 4 pathR) (rOne (rX .shr 2 (partR .shr)))), qV rB, fun (x : ((List Path) × (List Part))) => S_lFnExactAllServices x.1 x.2⟩
theorem ok_lFnExactAllServices : Ok 6 E_lFnExactAllServices := mk Try.func6 (by kernel_rfl) [((11, 0), E_lszPathS), ((12, 0), E_lszPartS), ((14, 0), E_ltoPathS), ((15, 0), E_ltoPartS), ((30, 0), E_sAllServices), ((31, 0), E_iAllServices), ((32, 0), E_leqServiceS), ((17, 0), E_leqPathS), ((18, 0), E_leqPartS), ((35, 0), E_lheldServiceS)] [((22, 0), E_lmarkPathS), ((33, 0), E_lmarkPartS), ((34, 0), E_lmarkServiceS)] [] { tk := [(8, 5), (32, 1)], hb := [((9, 1), 2), ((10, 1), 2), ((11, 2), 2), ((12, 2), 2), ((14, 3), 2), ((16, 3), 2), ((19, 2), 3), ((20, 2), 3), ((21, 5), 2), ((24, 2), 3), ((26, 2), 2), ((31, 4), 2), ((32, 2), 2), ((35, 2), 2)], th := [(9, 1), (10, 1), (11, 2), (31, 4)], rt := [((9, 1), (rX .unq 4 pathR)), ((10, 1), (rX .unq 2 (partR .unq))), ((11, 2), (rX .unq 4 serviceR)), ((31, 4), (rX .unq 4 serviceR))] } ⟨ok_lszPathS, ok_lszPartS, ok_ltoPathS, ok_ltoPartS, ok_sAllServices, ok_iAllServices, ok_leqServiceS, ok_leqPathS, ok_leqPartS, ok_lheldServiceS, trivial⟩ ⟨ok_lmarkPathS, ok_lmarkPartS, ok_lmarkServiceS, trivial⟩ (fun x => by kernel_rfl)
noncomputable def E_lszControl : Entry := ⟨aV (rCo (rAg (controlR .shr .shr)) (rOne rI)), qV rI, fun (x : (Control × Int)) => S_lszControl x.1 x.2⟩
theorem ok_lszControl : Ok 62 E_lszControl := mk Try.func62 (by kernel_rfl) [((110, 0), E_lszIntS)] [] [] {} ⟨ok_lszIntS, trivial⟩ trivial (fun x => by kernel_rfl)
noncomputable def E_lszWantS : Entry := ⟨aV (rCo (rX .shr 2 wantR) (rOne rI)), qV rI, fun (x : ((List Want) × Int)) => S_lszWantS x.1 x.2⟩
theorem ok_lszWantS : Ok 63 E_lszWantS := mk Try.func63 (by kernel_rfl) [] [] [] {} trivial trivial (fun x => by kernel_rfl)
noncomputable def E_lszLampS : Entry := ⟨aV (rCo (rX .shr 3 lampR) (rOne rI)), qV rI, fun (x : ((List Lamp) × Int)) => S_lszLampS x.1 x.2⟩
theorem ok_lszLampS : Ok 64 E_lszLampS := mk Try.func64 (by kernel_rfl) [] [] [] {} trivial trivial (fun x => by kernel_rfl)
noncomputable def E_lszEntry : Entry := ⟨aV (rCo (rAg (noteR .shr)) (rOne rI)), qV rI, fun (x : (Note × Int)) => S_lszEntry x.1 x.2⟩
theorem ok_lszEntry : Ok 131 E_lszEntry := mk Try.func131 (by kernel_rfl) [((110, 0), E_lszIntS)] [] [] {} ⟨ok_lszIntS, trivial⟩ trivial (fun x => by kernel_rfl)
noncomputable def E_lszEntryS : Entry := ⟨aV (rCo (rX .shr 3 (noteR .shr)) (rOne rI)), qV rI, fun (x : ((List Note) × Int)) => S_lszEntryS x.1 x.2⟩
theorem ok_lszEntryS : Ok 65 E_lszEntryS := mk Try.func65 (by kernel_rfl) [((131, 0), E_lszEntry)] [] [(148, (noteR .shr))] { lv := [(5, ⟨[0, 1, 5], [], [], pV (rCo (rX .shr 3 (noteR .shr)) (rCo rI (rOne rI)))⟩)] } ⟨ok_lszEntry, trivial⟩ trivial (fun x => by kernel_rfl)
noncomputable def E_lszTown : Entry := ⟨aV (rCo (rAg (townR .shr .shr .shr .shr .shr .shr .shr)) (rOne rI)), qV rI, fun (x : (Town × Int)) => S_lszTown x.1 x.2⟩
theorem ok_lszTown : Ok 36 E_lszTown := mk Try.func36 (by kernel_rfl) [((11, 0), E_lszPathS), ((62, 0), E_lszControl), ((63, 0), E_lszWantS), ((64, 0), E_lszLampS), ((65, 0), E_lszEntryS)] [] [] {} ⟨ok_lszPathS, ok_lszControl, ok_lszWantS, ok_lszLampS, ok_lszEntryS, trivial⟩ trivial (fun x => by kernel_rfl)
noncomputable def E_ltoControl : Entry := ⟨aV (rOne (rAg (controlR .shr .shr))), qV (rAg (controlR .own .own)), fun (x : Control) => S_ltoControl x⟩
theorem ok_ltoControl : Ok 69 E_ltoControl := mk Try.func69 (by kernel_rfl) [((111, 0), E_ltoIntS)] [] [] { tk := [(2, 4), (4, 4), (6, 1)], mo := [(6, 0)] } ⟨ok_ltoIntS, trivial⟩ trivial (fun x => by kernel_rfl)
noncomputable def E_ltoWant : Entry := ⟨aV (rOne (rAg wantR)), qV (rAg wantR), fun (x : Want) => S_ltoWant x⟩
theorem ok_ltoWant : Ok 134 E_ltoWant := mk Try.func134 (by kernel_rfl) [] [] [] {} trivial trivial (fun x => by kernel_rfl)
noncomputable def E_ltoWantS : Entry := ⟨aV (rOne (rX .shr 2 wantR)), qV (rX .own 2 wantR), fun (x : (List Want)) => S_ltoWantS x⟩
theorem ok_ltoWantS : Ok 70 E_ltoWantS := mk Try.func70 (by kernel_rfl) [((134, 0), E_ltoWant)] [] [(154, wantR)] { ro := [(7, wantR)], lv := [(3, ⟨[0, 4], [(3, 7, true)], [(7, 2, true, false)], pVO (rCo (rX .shr 2 wantR) (rOne rI)) (oArr1 wantR)⟩)] } ⟨ok_ltoWant, trivial⟩ trivial (fun x => by kernel_rfl)
noncomputable def E_ltoPrio : Entry := ⟨aV (rOne (rAg prioR)), qV (rAg prioR), fun (x : Prio) => S_ltoPrio x⟩
theorem ok_ltoPrio : Ok 71 E_ltoPrio := mk Try.func71 (by kernel_rfl) [] [] [] {} trivial trivial (fun x => by kernel_rfl)
noncomputable def E_ltoLamp : Entry := ⟨aV (rOne (rAg lampR)), qV (rAg lampR), fun (x : Lamp) => S_ltoLamp x⟩
theorem ok_ltoLamp : Ok 135 E_ltoLamp := mk Try.func135 (by kernel_rfl) [] [] [] {} trivial trivial (fun x => by kernel_rfl)
noncomputable def E_ltoLampS : Entry := ⟨aV (rOne (rX .shr 3 lampR)), qV (rX .own 3 lampR), fun (x : (List Lamp)) => S_ltoLampS x⟩
theorem ok_ltoLampS : Ok 72 E_ltoLampS := mk Try.func72 (by kernel_rfl) [((135, 0), E_ltoLamp)] [] [(158, lampR)] { ro := [(7, lampR)], lv := [(3, ⟨[0, 4], [(3, 7, true)], [(7, 3, true, false)], pVO (rCo (rX .shr 3 lampR) (rOne rI)) (oArr1 lampR)⟩)] } ⟨ok_ltoLamp, trivial⟩ trivial (fun x => by kernel_rfl)
noncomputable def E_ltoEntry : Entry := ⟨aV (rOne (rAg (noteR .shr))), qV (rAg (noteR .own)), fun (x : Note) => S_ltoEntry x⟩
theorem ok_ltoEntry : Ok 136 E_ltoEntry := mk Try.func136 (by kernel_rfl) [((111, 0), E_ltoIntS)] [] [] { tk := [(3, 4), (5, 1)], mo := [(5, 0)] } ⟨ok_ltoIntS, trivial⟩ trivial (fun x => by kernel_rfl)
noncomputable def E_ltoEntryS : Entry := ⟨aV (rOne (rX .shr 3 (noteR .shr))), qV (rX .own 3 (noteR .own)), fun (x : (List Note)) => S_ltoEntryS x⟩
theorem ok_ltoEntryS : Ok 73 E_ltoEntryS := mk Try.func73 (by kernel_rfl) [((136, 0), E_ltoEntry)] [] [(148, (noteR .shr))] { tk := [(5, 8)], ro := [(7, (noteR .own))], lv := [(3, ⟨[0, 4], [(3, 7, true)], [(7, 3, true, false)], pVO (rCo (rX .shr 3 (noteR .shr)) (rOne rI)) (oArr1 (noteR .own))⟩)] } ⟨ok_ltoEntry, trivial⟩ trivial (fun x => by kernel_rfl)
noncomputable def E_ltoTown : Entry := ⟨aV (rOne (rAg (townR .shr .shr .shr .shr .shr .shr .shr))), qV (rAg (townR .own .own .own .own .own .own .own)), fun (x : Town) => S_ltoTown x⟩
theorem ok_ltoTown : Ok 38 E_ltoTown := mk Try.func38 (by kernel_rfl) [((14, 0), E_ltoPathS), ((69, 0), E_ltoControl), ((70, 0), E_ltoWantS), ((71, 0), E_ltoPrio), ((72, 0), E_ltoLampS), ((73, 0), E_ltoEntryS)] [] [] { tk := [(2, 4), (3, 4), (4, 4), (6, 4), (8, 4), (11, 1)], mo := [(11, 0)] } ⟨ok_ltoPathS, ok_ltoControl, ok_ltoWantS, ok_ltoPrio, ok_ltoLampS, ok_ltoEntryS, trivial⟩ trivial (fun x => by kernel_rfl)
noncomputable def E_sAreLamps : Entry := ⟨aV (rCo (rX .shr 4 pathR) (rOne (rX .shr 3 lampR))), qV rB, fun (x : ((List Path) × (List Lamp))) => S_sAreLamps x.1 x.2⟩
theorem ok_sAreLamps : Ok 89 E_sAreLamps := mk Try.func89 (by kernel_rfl) [((123, 0), E_sFindPath), ((92, 0), E_sl1In), ((114, 0), E_sArePaths)] [] [(156, lampR)] { lv := [(2, ⟨[0, 1, 5], [], [], pV (rCo (rX .shr 4 pathR) (rCo (rX .shr 3 lampR) (rOne rI)))⟩), (7, ⟨[0, 1, 5, 6], [], [], pV (rCo (rX .shr 4 pathR) (rCo (rX .shr 3 lampR) (rCo rI (rOne rI))))⟩)] } ⟨ok_sFindPath, ok_sl1In, ok_sArePaths, trivial⟩ trivial (fun x => by kernel_rfl)
noncomputable def E_sModeFor : Entry := ⟨aV (rCo (rX .shr 4 pathR) (rCo (rX .shr 3 lampR) (rOne rB))), qV rI, fun (x : ((List Path) × (List Lamp) × Bool)) => S_sModeFor x.1 x.2.1 x.2.2⟩
theorem ok_sModeFor : Ok 132 E_sModeFor := mk Try.func132 (by kernel_rfl) [((89, 0), E_sAreLamps)] [] [(156, lampR)] { lv := [(4, ⟨[0, 1, 7], [], [], pV (rCo (rX .shr 4 pathR) (rCo (rX .shr 3 lampR) (rOne rI)))⟩)] } ⟨ok_sAreLamps, trivial⟩ trivial (fun x => by kernel_rfl)
noncomputable def E_sModeOf : Entry := ⟨aV (rOne (rAg (townR .shr .shr .shr .shr .shr .shr .shr))), qV rI, fun (x : Town) => S_sModeOf x⟩
theorem ok_sModeOf : Ok 66 E_sModeOf := mk Try.func66 (by kernel_rfl) [((132, 0), E_sModeFor)] [] [] {} ⟨ok_sModeFor, trivial⟩ trivial (fun x => by kernel_rfl)
noncomputable def E_sIsControl : Entry := ⟨aV (rCo (rX .shr 4 pathR) (rOne (rAg (controlR .shr .shr)))), qV rB, fun (x : ((List Path) × Control)) => S_sIsControl x.1 x.2⟩
theorem ok_sIsControl : Ok 86 E_sIsControl := mk Try.func86 (by kernel_rfl) [((119, 0), E_sIsTogether), ((92, 0), E_sl1In), ((142, 0), E_sClearBetween)] [] [] {} ⟨ok_sIsTogether, ok_sl1In, ok_sClearBetween, trivial⟩ trivial (fun x => by kernel_rfl)
noncomputable def E_sLightsOf : Entry := ⟨aV (rCo (rX .shr 4 pathR) (rOne (rAg (controlR .shr .shr)))), qV (rX .own 1 iR), fun (x : ((List Path) × Control)) => S_sLightsOf x.1 x.2⟩
theorem ok_sLightsOf : Ok 67 E_sLightsOf := mk Try.func67 (by kernel_rfl) [((86, 0), E_sIsControl), ((133, 0), E_sl6Has)] [] [(83, pathR)] { tk := [(1, 1), (10, 0), (10, 3), (10, 4), (11, 0), (11, 1)], lv := [(3, ⟨[0, 5, 6], [(3, 3, false)], [(3, 4, false, false)], pVO (rCo (rX .shr 4 pathR) (rCo (rX .own 1 iR) (rOne rI))) (oRow1 (controlR .shr .shr))⟩)] } ⟨ok_sIsControl, ok_sl6Has, trivial⟩ trivial (fun x => by kernel_rfl)
noncomputable def E_sl33All : Entry := ⟨aV (rCo (rAg (townR .shr .shr .shr .shr .shr .shr .shr)) (rOne rI)), qV (rX .own 1 iR), fun (x : (Town × Int)) => S_sl33All x.1 x.2⟩
theorem ok_sl33All : Ok 68 E_sl33All := mk Try.func68 (by kernel_rfl) [] [] [] { tk := [(1, 1), (5, 0), (5, 3), (5, 4), (6, 0), (6, 1)], lv := [(3, ⟨[1, 5, 6], [(2, 2, false)], [(2, 13, false, false)], pVO (rCo rI (rCo (rX .own 1 iR) (rOne rI))) (oRow1 (townR .shr .shr .shr .shr .shr .shr .shr))⟩)] } trivial trivial (fun x => by kernel_rfl)
noncomputable def E_sLightsNow : Entry := ⟨aV (rOne (rAg (townR .shr .shr .shr .shr .shr .shr .shr))), qV (rX .own 1 iR), fun (x : Town) => S_sLightsNow x⟩
theorem ok_sLightsNow : Ok 37 E_sLightsNow := mk Try.func37 (by kernel_rfl) [((66, 0), E_sModeOf), ((67, 0), E_sLightsOf), ((68, 0), E_sl33All)] [] [] { tk := [(2, 5), (3, 2)] } ⟨ok_sModeOf, ok_sLightsOf, ok_sl33All, trivial⟩ trivial (fun x => by kernel_rfl)
noncomputable def E_iAreLamps : Entry := ⟨aV (rCo (rX .shr 4 pathR) (rOne (rX .shr 3 lampR))), qV rB, fun (x : ((List Path) × (List Lamp))) => S_iAreLamps x.1 x.2⟩
theorem ok_iAreLamps : Ok 96 E_iAreLamps := mk Try.func96 (by kernel_rfl) [((116, 0), E_iArePaths), ((52, 0), E_iFindPath)] [] [(156, lampR)] { lv := [(4, ⟨[0, 1, 12, 13, 14], [], [], pV (rCo (rX .shr 4 pathR) (rCo (rX .shr 3 lampR) (rCo (rX .shr 3 lampR) (rCo rI (rOne rI)))))⟩), (9, ⟨[0, 1, 12, 13, 14, 36, 37, 38], [(6, 6, false)], [(6, 3, false, false)], pVO (rCo (rX .shr 4 pathR) (rCo (rX .shr 3 lampR) (rCo (rX .shr 3 lampR) (rCo rI (rCo rI (rCo (rX .shr 3 lampR) (rCo rI (rOne rI)))))))) (oRow1 lampR)⟩)] } ⟨ok_iArePaths, ok_iFindPath, trivial⟩ trivial (fun x => by kernel_rfl)
noncomputable def E_iModeFor_1 : Entry := ⟨aV (rOne (rAg lampR)), qV rB, fun (x : Lamp) => S_iModeFor_1 x⟩
theorem ok_iModeFor_1 : Ok 176 E_iModeFor_1 := mk Try.func176 (by kernel_rfl) [] [] [] {} trivial trivial (fun x => by kernel_rfl)
noncomputable def E_slices_IndexFunc_loop_example_g03006_impl_Lamp_loop_example_g03006_impl_Lamp : Entry := ⟨aV (rCo (rX .shr 3 lampR) (rOne (rFn 176 rNil))), qV rI, fun (x : ((List Lamp) × Unit)) => S_slices_IndexFunc_loop_example_g03006_impl_Lamp_loop_example_g03006_impl_Lamp x.1⟩
theorem ok_slices_IndexFunc_loop_example_g03006_impl_Lamp_loop_example_g03006_impl_Lamp : Ok 200 E_slices_IndexFunc_loop_example_g03006_impl_Lamp_loop_example_g03006_impl_Lamp := mk Try.func200 (by kernel_rfl) [((176, 0), E_iModeFor_1)] [] [(156, lampR)] { lv := [(2, ⟨[0, 1, 7, 8], [], [], pV (rCo (rX .shr 3 lampR) (rCo (rFn 176 rNil) (rCo rI (rOne rI))))⟩)] } ⟨ok_iModeFor_1, trivial⟩ trivial (fun x => by kernel_rfl)
noncomputable def E_slices_ContainsFunc_loop_example_g03006_impl_Lamp_loop_example_g03006_impl_Lamp : Entry := ⟨aV (rCo (rX .shr 3 lampR) (rOne (rFn 176 rNil))), qV rB, fun (x : ((List Lamp) × Unit)) => S_slices_ContainsFunc_loop_example_g03006_impl_Lamp_loop_example_g03006_impl_Lamp x.1⟩
theorem ok_slices_ContainsFunc_loop_example_g03006_impl_Lamp_loop_example_g03006_impl_Lamp : Ok 175 E_slices_ContainsFunc_loop_example_g03006_impl_Lamp_loop_example_g03006_impl_Lamp := mk Try.func175 (by kernel_rfl) [((200, 0), E_slices_IndexFunc_loop_example_g03006_impl_Lamp_loop_example_g03006_impl_Lamp)] [] [] {} ⟨ok_slices_IndexFunc_loop_example_g03006_impl_Lamp_loop_example_g03006_impl_Lamp, trivial⟩ trivial (fun x => by kernel_rfl)
noncomputable def E_iModeFor : Entry := ⟨aV (rCo (rX .shr 4 pathR) (rCo (rX .shr 3 lampR) (rOne rB))), qV rI, fun (x : ((List Path) × (List Lamp) × Bool)) => S_iModeFor x.1 x.2.1 x.2.2⟩
theorem ok_iModeFor : Ok 137 E_iModeFor := mk Try.func137 (by kernel_rfl) [((96, 0), E_iAreLamps), ((175, 0), E_slices_ContainsFunc_loop_example_g03006_impl_Lamp_loop_example_g03006_impl_Lamp)] [] [] {} ⟨ok_iAreLamps, ok_slices_ContainsFunc_loop_example_g03006_impl_Lamp_loop_example_g03006_impl_Lamp, trivial⟩ trivial (fun x => by kernel_rfl)
noncomputable def E_iModeOf : Entry := ⟨aV (rOne (rAg (townR .shr .shr .shr .shr .shr .shr .shr))), qV rI, fun (x : Town) => S_iModeOf x⟩
theorem ok_iModeOf : Ok 74 E_iModeOf := mk Try.func74 (by kernel_rfl) [((137, 0), E_iModeFor)] [] [] {} ⟨ok_iModeFor, trivial⟩ trivial (fun x => by kernel_rfl)
noncomputable def E_iall : Entry := ⟨aV (rCo (rX .shr 4 pathR) (rOne rI)), qV (rX .own 1 iR), fun (x : ((List Path) × Int)) => S_iall x.1 x.2⟩
theorem ok_iall : Ok 75 E_iall := mk Try.func75 (by kernel_rfl) [] [] [] { tk := [(1, 1), (4, 0), (4, 3), (4, 4), (6, 0), (6, 1)], lv := [(3, ⟨[1, 5, 8, 9], [], [], pV (rCo rI (rCo (rX .own 1 iR) (rCo rI (rOne rI))))⟩)] } trivial trivial (fun x => by kernel_rfl)
noncomputable def E_iIsControl : Entry := ⟨aV (rCo (rX .shr 4 pathR) (rOne (rAg (controlR .shr .shr)))), qV rB, fun (x : ((List Path) × Control)) => S_iIsControl x.1 x.2⟩
theorem ok_iIsControl : Ok 93 E_iIsControl := mk Try.func93 (by kernel_rfl) [((145, 0), E_iIsTogether), ((99, 0), E_iInRange), ((146, 0), E_iClearBetween)] [] [] {} ⟨ok_iIsTogether, ok_iInRange, ok_iClearBetween, trivial⟩ trivial (fun x => by kernel_rfl)
noncomputable def E_iLightsOf : Entry := ⟨aV (rCo (rX .shr 4 pathR) (rOne (rAg (controlR .shr .shr)))), qV (rX .own 1 iR), fun (x : ((List Path) × Control)) => S_iLightsOf x.1 x.2⟩
theorem ok_iLightsOf : Ok 76 E_iLightsOf := mk Try.func76 (by kernel_rfl) [((93, 0), E_iIsControl), ((138, 0), E_slices_Contains_int_int)] [] [(83, pathR)] { tk := [(1, 1), (3, 0), (3, 1), (12, 0), (12, 3), (12, 4), (14, 0), (14, 1)], lv := [(5, ⟨[5, 15, 16, 17], [(3, 3, false)], [(3, 4, false, false)], pVO (rCo (rX .own 1 iR) (rCo (rX .shr 4 pathR) (rCo rI (rOne rI)))) (oRow1 (controlR .shr .shr))⟩)] } ⟨ok_iIsControl, ok_slices_Contains_int_int, trivial⟩ trivial (fun x => by kernel_rfl)
noncomputable def E_iLightsNow : Entry := ⟨aV (rOne (rAg (townR .shr .shr .shr .shr .shr .shr .shr))), qV (rX .own 1 iR), fun (x : Town) => S_iLightsNow x⟩
theorem ok_iLightsNow : Ok 39 E_iLightsNow := mk Try.func39 (by kernel_rfl) [((74, 0), E_iModeOf), ((75, 0), E_iall), ((76, 0), E_iLightsOf)] [] [] { tk := [(2, 3), (3, 5)] } ⟨ok_iModeOf, ok_iall, ok_iLightsOf, trivial⟩ trivial (fun x => by kernel_rfl)
noncomputable def E_leqControl : Entry := ⟨aV (rCo (rAg (controlR .shr .shr)) (rOne (rAg (controlR .shr .shr)))), qV rB, fun (x : (Control × Control)) => S_leqControl x.1 x.2⟩
theorem ok_leqControl : Ok 77 E_leqControl := mk Try.func77 (by kernel_rfl) [((27, 0), E_leqIntS)] [] [] {} ⟨ok_leqIntS, trivial⟩ trivial (fun x => by kernel_rfl)
noncomputable def E_leqWant : Entry := ⟨aV (rCo (rAg wantR) (rOne (rAg wantR))), qV rB, fun (x : (Want × Want)) => S_leqWant x.1 x.2⟩
theorem ok_leqWant : Ok 139 E_leqWant := mk Try.func139 (by kernel_rfl) [] [] [] {} trivial trivial (fun x => by kernel_rfl)
noncomputable def E_leqWantS : Entry := ⟨aV (rCo (rX .shr 2 wantR) (rOne (rX .shr 2 wantR))), qV rB, fun (x : ((List Want) × (List Want))) => S_leqWantS x.1 x.2⟩
theorem ok_leqWantS : Ok 78 E_leqWantS := mk Try.func78 (by kernel_rfl) [((139, 0), E_leqWant)] [] [(152, wantR)] { lv := [(4, ⟨[0, 1, 5], [], [], pV (rCo (rX .shr 2 wantR) (rCo (rX .shr 2 wantR) (rOne rI)))⟩)] } ⟨ok_leqWant, trivial⟩ trivial (fun x => by kernel_rfl)
noncomputable def E_leqPrio : Entry := ⟨aV (rCo (rAg prioR) (rOne (rAg prioR))), qV rB, fun (x : (Prio × Prio)) => S_leqPrio x.1 x.2⟩
theorem ok_leqPrio : Ok 79 E_leqPrio := mk Try.func79 (by kernel_rfl) [] [] [] {} trivial trivial (fun x => by kernel_rfl)
noncomputable def E_leqLamp : Entry := ⟨aV (rCo (rAg lampR) (rOne (rAg lampR))), qV rB, fun (x : (Lamp × Lamp)) => S_leqLamp x.1 x.2⟩
theorem ok_leqLamp : Ok 140 E_leqLamp := mk Try.func140 (by kernel_rfl) [] [] [] {} trivial trivial (fun x => by kernel_rfl)
noncomputable def E_leqLampS : Entry := ⟨aV (rCo (rX .shr 3 lampR) (rOne (rX .shr 3 lampR))), qV rB, fun (x : ((List Lamp) × (List Lamp))) => S_leqLampS x.1 x.2⟩
theorem ok_leqLampS : Ok 80 E_leqLampS := mk Try.func80 (by kernel_rfl) [((140, 0), E_leqLamp)] [] [(156, lampR)] { lv := [(4, ⟨[0, 1, 5], [], [], pV (rCo (rX .shr 3 lampR) (rCo (rX .shr 3 lampR) (rOne rI)))⟩)] } ⟨ok_leqLamp, trivial⟩ trivial (fun x => by kernel_rfl)
noncomputable def E_leqEntry : Entry := ⟨aV (rCo (rAg (noteR .shr)) (rOne (rAg (noteR .shr)))), qV rB, fun (x : (Note × Note)) => S_leqEntry x.1 x.2⟩
theorem ok_leqEntry : Ok 141 E_leqEntry := mk Try.func141 (by kernel_rfl) [((27, 0), E_leqIntS)] [] [] {} ⟨ok_leqIntS, trivial⟩ trivial (fun x => by kernel_rfl)
noncomputable def E_leqEntryS : Entry := ⟨aV (rCo (rX .shr 3 (noteR .shr)) (rOne (rX .shr 3 (noteR .shr)))), qV rB, fun (x : ((List Note) × (List Note))) => S_leqEntryS x.1 x.2⟩
theorem ok_leqEntryS : Ok 81 E_leqEntryS := mk Try.func81 (by kernel_rfl) [((141, 0), E_leqEntry)] [] [(129, (noteR .shr))] { lv := [(4, ⟨[0, 1, 5], [], [], pV (rCo (rX .shr 3 (noteR .shr)) (rCo (rX .shr 3 (noteR .shr)) (rOne rI)))⟩)] } ⟨ok_leqEntry, trivial⟩ trivial (fun x => by kernel_rfl)
noncomputable def E_leqTown : Entry := ⟨aV (rCo (rAg (townR .shr .shr .shr .shr .shr .shr .shr)) (rOne (rAg (townR .shr .shr .shr .shr .shr .shr .shr)))), qV rB, fun (x : (Town × Town)) => S_leqTown x.1 x.2⟩
theorem ok_leqTown : Ok 40 E_leqTown := mk Try.func40 (by kernel_rfl) [((17, 0), E_leqPathS), ((77, 0), E_leqControl), ((78, 0), E_leqWantS), ((79, 0), E_leqPrio), ((80, 0), E_leqLampS), ((81, 0), E_leqEntryS)] [] [] {} ⟨ok_leqPathS, ok_leqControl, ok_leqWantS, ok_leqPrio, ok_leqLampS, ok_leqEntryS, trivial⟩ trivial (fun x => by kernel_rfl)
noncomputable def E_lmarkControl : Entry := ⟨aV (rCo (rAg (controlR .unq .unq)) (rOne rI)), qV (rTu (rCo rI (rOne (rAg (controlR .unq .unq))))), fun (x : (Control × Int)) => S_lmarkControl x.1 x.2⟩
theorem ok_lmarkControl : OkU 82 E_lmarkControl := mkU Try.func82 (by kernel_rfl) [] [((28, 0), E_lmarkIntS)] [] { hb := [((0, 0), 1), ((1, 1), 1), ((1, 3), 3), ((2, 1), 1), ((2, 3), 3)] } trivial ⟨ok_lmarkIntS, trivial⟩ (fun x => by kernel_rfl)
noncomputable def E_lmarkWantS : Entry := ⟨aV (rCo (rX .unq 2 wantR) (rOne rI)), qV (rTu (rCo rI (rOne (rX .unq 2 wantR)))), fun (x : ((List Want) × Int)) => S_lmarkWantS x.1 x.2⟩
theorem ok_lmarkWantS : OkU 83 E_lmarkWantS := mkU Try.func83 (by kernel_rfl) [] [] [] { ro := [(0, wantR)], lv := [(2, ⟨[1, 5], [(0, 0, true)], [(0, 2, true, false)], pVO (rCo rI (rOne rI)) (oArr1 wantR)⟩)] } trivial trivial (fun x => by kernel_rfl)
noncomputable def E_lmarkLampS : Entry := ⟨aV (rCo (rX .unq 3 lampR) (rOne rI)), qV (rTu (rCo rI (rOne (rX .unq 3 lampR)))), fun (x : ((List Lamp) × Int)) => S_lmarkLampS x.1 x.2⟩
theorem ok_lmarkLampS : OkU 84 E_lmarkLampS := mkU Try.func84 (by kernel_rfl) [] [] [] { ro := [(0, lampR)], lv := [(2, ⟨[1, 5], [(0, 0, true)], [(0, 3, true, false)], pVO (rCo rI (rOne rI)) (oArr1 lampR)⟩)] } trivial trivial (fun x => by kernel_rfl)
noncomputable def E_lmarkEntryS : Entry := ⟨aV (rCo (rX .unq 3 (noteR .unq)) (rOne rI)), qV (rTu (rCo rI (rOne (rX .unq 3 (noteR .unq))))), fun (x : ((List Note) × Int)) => S_lmarkEntryS x.1 x.2⟩
theorem ok_lmarkEntryS : OkU 85 E_lmarkEntryS := mkU Try.func85 (by kernel_rfl) [] [((28, 0), E_lmarkIntS)] [] { hb := [((6, 4), 1), ((6, 6), 3)], ro := [(0, (noteR .unq))], lv := [(2, ⟨[1, 5], [(0, 0, true)], [(0, 3, true, false)], pVO (rCo rI (rOne rI)) (oArr1 (noteR .unq))⟩)] } trivial ⟨ok_lmarkIntS, trivial⟩ (fun x => by kernel_rfl)
noncomputable def E_lmarkTown : Entry := ⟨aV (rCo (rAg (townR .unq .unq .unq .unq .unq .unq .unq)) (rOne rI)), qV (rTu (rCo rI (rOne (rAg (townR .unq .unq .unq .unq .unq .unq .unq))))), fun (x : (Town × Int)) => S_lmarkTown x.1 x.2⟩
theorem ok_lmarkTown : OkU 41 E_lmarkTown := mkU Try.func41 (by kernel_rfl) [] [((22, 0), E_lmarkPathS), ((82, 0), E_lmarkControl), ((83, 0), E_lmarkWantS), ((84, 0), E_lmarkLampS), ((85, 0), E_lmarkEntryS)] [] { hb := [((0, 0), 1), ((1, 1), 1), ((1, 3), 3), ((2, 1), 1), ((2, 3), 3), ((3, 1), 1), ((3, 3), 3), ((4, 1), 1), ((4, 3), 3), ((5, 1), 1), ((5, 3), 3)] } trivial ⟨ok_lmarkPathS, ok_lmarkControl, ok_lmarkWantS, ok_lmarkLampS, ok_lmarkEntryS, trivial⟩ (fun x => by kernel_rfl)
noncomputable def E_lheldIntS : Entry := ⟨aV (rCo (rX .shr 1 iR) (rOne rI)), qV rI, fun (x : ((List Int) × Int)) => S_lheldIntS x.1 x.2⟩
theorem ok_lheldIntS : Ok 29 E_lheldIntS := mk Try.func29 (by kernel_rfl) [] [] [(3, iR)] { lv := [(2, ⟨[0, 1, 5], [], [], pV (rCo (rX .shr 1 iR) (rCo rI (rOne rI)))⟩)] } trivial trivial (fun x => by kernel_rfl)
noncomputable def E_lFnExactLightsNow : Entry := ⟨aV (rOne (rAg (townR .shr .shr .shr .shr .shr .shr .shr))), qV rB, fun (x : Town) => S_lFnExactLightsNow x⟩
theorem ok_lFnExactLightsNow : Ok 7 E_lFnExactLightsNow := mk Try.func7 (by kernel_rfl) [((36, 0), E_lszTown), ((38, 0), E_ltoTown), ((37, 0), E_sLightsNow), ((39, 0), E_iLightsNow), ((27, 0), E_leqIntS), ((40, 0), E_leqTown), ((29, 0), E_lheldIntS)] [((41, 0), E_lmarkTown), ((28, 0), E_lmarkIntS)] [] { tk := [(5, 3), (6, 3), (25, 1)], hb := [((6, 1), 2), ((7, 0), 1), ((7, 1), 2), ((8, 2), 2), ((10, 0), 1), ((10, 3), 2), ((13, 0), 1), ((13, 2), 3), ((14, 5), 2), ((17, 2), 3), ((19, 2), 2), ((24, 2), 2), ((25, 2), 2), ((28, 2), 2)], th := [(7, 1), (24, 2)], rt := [((6, 1), (rAg (townR .unq .unq .unq .unq .unq .unq .unq))), ((7, 1), (rX .unq 1 iR)), ((24, 2), (rX .unq 1 iR))] } ⟨ok_lszTown, ok_ltoTown, ok_sLightsNow, ok_iLightsNow, ok_leqIntS, ok_leqTown, ok_lheldIntS, trivial⟩ ⟨ok_lmarkTown, ok_lmarkIntS, trivial⟩ (fun x => by kernel_rfl)
end Go.Proofs.Yteaoohmablanhaa
