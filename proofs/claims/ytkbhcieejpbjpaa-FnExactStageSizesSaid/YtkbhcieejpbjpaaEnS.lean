/- Part of the proof: see the last text of the claim. -/
import Derived.Test.YtkbhcieejpbjpaaSrtS
import Derived.Test.YtkbhcieejpbjpaaShS
import Derived.KernelRfl
import Derived.Test.YtkbhcieejpbjpaaRows
set_option linter.all false
namespace Go.Proofs.Ytkbhcieejpbjpaa
open Go.Fx Go.Sh
set_option maxRecDepth 100000
set_option linter.unusedSectionVars false
def tab : List (Nat × TD) := [(3, .sc (.int .i64 0)),
  (4, .sc (.bool false)),
  (22, .sl 38 4),
  (24, .sl 3 1),
  (26, .sl 36 4),
  (33, .sl 24 1),
  (36, .st [(none, .int .i64 0), (none, .int .i64 0), (none, .int .i64 0), (none, .int .i64 0)] [(0, 1), (1, 1), (2, 1), (3, 1)]),
  (38, .st [(none, .int .i64 0), (none, .int .i64 0), (none, .int .i64 0), (none, .int .i64 0)] [(0, 1), (1, 1), (2, 1), (3, 1)])]
theorem tab_ok : TOk Try.prog (tabT tab) := tabT_ok (by kernel_rfl)
theorem mixed : Try.prog.follows .mixedOrders = true := by kernel_rfl
abbrev nG : Nat := 0
abbrev gG : Nat → Option Obj := fun _ => none
abbrev Ok (f : Nat) (en : Entry) : Prop := EntryOk Try.prog nG gG f en
abbrev n0 : Nat → Bool := fun _ => false
abbrev OkU (f : Nat) (en : Entry) : Prop := EntryUOk Try.prog nG gG f en
theorem mk {f : Nat} {fn : Func} {en : Entry} (hfn : Try.prog.funcs[f]? = some fn) (hname : (fn.name == "runtime.NumGoroutine") = false) (cs us : List ((Nat × Nat) × Entry)) (gs : Nat → Bool) (R : List (Nat × RR)) (h : Hints) (hcs : AllOk Try.prog nG gG cs) (hus : AllUOk Try.prog nG gG us)
    (hL : ∀ x, evalBody (ctxOf (tabT tab) cs us gs R h fn.ntmps NN) fn en.rs (en.ps.enc x).1 (en.ps.enc x).2 = en.S x) : Ok f en := fn_ok tab_ok mixed hfn hname hcs hus hL
theorem mkU {f : Nat} {fn : Func} {en : Entry} (hfn : Try.prog.funcs[f]? = some fn) (hname : (fn.name == "runtime.NumGoroutine") = false) (cs us : List ((Nat × Nat) × Entry)) (gs : Nat → Bool) (R : List (Nat × RR)) (h : Hints) (hcs : AllOk Try.prog nG gG cs) (hus : AllUOk Try.prog nG gG us)
    (hL : ∀ x, evalBodyU (ctxOf (tabT tab) cs us gs R h fn.ntmps NN true) fn en.rs (en.ps.enc x).1 = en.S x) : OkU f en := fnU_ok tab_ok mixed hfn hname hcs hus hL
noncomputable def E_slices_SortFunc_int_int : Entry := ⟨aV (rCo (rX .unq 1 (rOne (rX .own 1 iR))) (rOne (rFn 22 rNil))), qV (rSo (rX .unq 1 (rOne (rX .own 1 iR)))), fun (x : ((List (List Int)) × Unit)) => S_slices_SortFunc_int_int x.1⟩
theorem ok_slices_SortFunc_int_int : OkU 21 E_slices_SortFunc_int_int := fun x r hS _ _ => by
  obtain ⟨h1, rfl⟩ := srt_some hS
  exact srt_spec x.1 h1
noncomputable def E_lszPathS : Entry := ⟨aV (rCo (rX .shr 4 pathR) (rOne rI)), qV rI, fun (x : ((List Path) × Int)) => S_lszPathS x.1 x.2⟩
theorem ok_lszPathS : Ok 4 E_lszPathS := mk Try.func4 (by kernel_rfl) [] [] n0 [] {} trivial trivial (fun x => by kernel_rfl)
noncomputable def E_ltoPath : Entry := ⟨aV (rOne (rAg pathR)), qV (rAg pathR), fun (x : Path) => S_ltoPath x⟩
theorem ok_ltoPath : Ok 14 E_ltoPath := mk Try.func14 (by kernel_rfl) [] [] n0 [] {} trivial trivial (fun x => by kernel_rfl)
noncomputable def E_ltoPathS : Entry := ⟨aV (rOne (rX .shr 4 pathR)), qV (rX .own 4 pathR), fun (x : (List Path)) => S_ltoPathS x⟩
theorem ok_ltoPathS : Ok 6 E_ltoPathS := mk Try.func6 (by kernel_rfl) [((14, 0), E_ltoPath)] [] n0 [(38, pathR)] { ro := [(7, pathR)], lv := [(3, ⟨[0, 4], [(3, 7, true)], [(7, 4, true, false)], pVO (rCo (rX .shr 4 pathR) (rOne rI)) (oArr1 pathR), []⟩)] } ⟨ok_ltoPath, trivial⟩ trivial (fun x => by kernel_rfl)
noncomputable def E_sl1In : Entry := ⟨aV (rCo rI (rCo rI (rOne rI))), qV rB, fun (x : (Int × Int × Int)) => S_sl1In x.1 x.2.1 x.2.2⟩
theorem ok_sl1In : Ok 33 E_sl1In := mk Try.func33 (by kernel_rfl) [] [] n0 [] {} trivial trivial (fun x => by kernel_rfl)
noncomputable def E_sIsPath : Entry := ⟨aV (rOne (rAg pathR)), qV rB, fun (x : Path) => S_sIsPath x⟩
theorem ok_sIsPath : Ok 23 E_sIsPath := mk Try.func23 (by kernel_rfl) [((33, 0), E_sl1In)] [] n0 [] {} ⟨ok_sl1In, trivial⟩ trivial (fun x => by kernel_rfl)
noncomputable def E_sArePaths : Entry := ⟨aV (rOne (rX .shr 4 pathR)), qV rB, fun (x : (List Path)) => S_sArePaths x⟩
theorem ok_sArePaths : Ok 17 E_sArePaths := mk Try.func17 (by kernel_rfl) [((23, 0), E_sIsPath)] [] n0 [(36, pathR)] { lv := [(2, ⟨[0, 3], [], [], pV (rCo (rX .shr 4 pathR) (rOne rI)), []⟩)] } ⟨ok_sIsPath, trivial⟩ trivial (fun x => by kernel_rfl)
noncomputable def E_sl6Has : Entry := ⟨aV (rCo (rX .shr 1 iR) (rOne rI)), qV rB, fun (x : ((List Int) × Int)) => S_sl6Has x.1 x.2⟩
theorem ok_sl6Has : Ok 34 E_sl6Has := mk Try.func34 (by kernel_rfl) [] [] n0 [(3, iR)] { lv := [(2, ⟨[0, 1, 5], [], [], pV (rCo (rX .shr 1 iR) (rCo rI (rOne rI))), []⟩)] } trivial trivial (fun x => by kernel_rfl)
noncomputable def E_sl6Put : Entry := ⟨aV (rCo (rX .shr 1 iR) (rOne rI)), qV (rX .own 1 iR), fun (x : ((List Int) × Int)) => S_sl6Put x.1 x.2⟩
theorem ok_sl6Put : Ok 35 E_sl6Put := mk Try.func35 (by kernel_rfl) [] [] n0 [(3, iR)] { tk := [(5, 3), (6, 7), (6, 12)], lv := [(2, ⟨[0, 1, 5], [], [], pV (rCo (rX .shr 1 iR) (rCo rI (rOne rI))), []⟩)] } trivial trivial (fun x => by kernel_rfl)
noncomputable def E_sFindPath : Entry := ⟨aV (rCo (rX .shr 4 pathR) (rOne rI)), qV rI, fun (x : ((List Path) × Int)) => S_sFindPath x.1 x.2⟩
theorem ok_sFindPath : Ok 36 E_sFindPath := mk Try.func36 (by kernel_rfl) [] [] n0 [(36, pathR)] { lv := [(2, ⟨[0, 1, 5], [], [], pV (rCo (rX .shr 4 pathR) (rCo rI (rOne rI))), []⟩)] } trivial trivial (fun x => by kernel_rfl)
noncomputable def E_sInPlace : Entry := ⟨aV (rOne rI), qV rI, fun (x : Int) => S_sInPlace x⟩
theorem ok_sInPlace : Ok 51 E_sInPlace := mk Try.func51 (by kernel_rfl) [((33, 0), E_sl1In)] [] n0 [] {} ⟨ok_sl1In, trivial⟩ trivial (fun x => by kernel_rfl)
noncomputable def E_sOutPlace : Entry := ⟨aV (rOne rI), qV rI, fun (x : Int) => S_sOutPlace x⟩
theorem ok_sOutPlace : Ok 52 E_sOutPlace := mk Try.func52 (by kernel_rfl) [((33, 0), E_sl1In)] [] n0 [] {} ⟨ok_sl1In, trivial⟩ trivial (fun x => by kernel_rfl)
noncomputable def E_sInterleave : Entry := ⟨aV (rCo rI (rCo rI (rCo rI (rOne rI)))), qV rB, fun (x : (Int × Int × Int × Int)) => S_sInterleave x.1 x.2.1 x.2.2.1 x.2.2.2⟩
theorem ok_sInterleave : Ok 50 E_sInterleave := mk Try.func50 (by kernel_rfl) [((33, 0), E_sl1In)] [] n0 [(3, iR)] { tk := [(1, 5)], lv := [(3, ⟨[0, 1, 2, 3, 9, 10], [], [], pV (rCo rI (rCo rI (rCo rI (rCo rI (rCo (rX .own 1 iR) (rOne rI)))))), []⟩), (6, ⟨[0, 1, 2, 3, 9, 10, 11], [], [], pV (rCo rI (rCo rI (rCo rI (rCo rI (rCo (rX .own 1 iR) (rCo rI (rOne rI))))))), []⟩), (14, ⟨[1, 2, 3, 12, 13], [], [], pV (rCo rI (rCo rI (rCo rI (rCo rI (rOne rI))))), []⟩)] } ⟨ok_sl1In, trivial⟩ trivial (fun x => by kernel_rfl)
noncomputable def E_sConflict : Entry := ⟨aV (rCo (rAg pathR) (rOne (rAg pathR))), qV rB, fun (x : (Path × Path)) => S_sConflict x.1 x.2⟩
theorem ok_sConflict : Ok 37 E_sConflict := mk Try.func37 (by kernel_rfl) [((23, 0), E_sIsPath), ((51, 0), E_sInPlace), ((52, 0), E_sOutPlace), ((50, 0), E_sInterleave)] [] n0 [] {} ⟨ok_sIsPath, ok_sInPlace, ok_sOutPlace, ok_sInterleave, trivial⟩ trivial (fun x => by kernel_rfl)
noncomputable def E_sIsTogether : Entry := ⟨aV (rCo (rX .shr 4 pathR) (rOne (rX .shr 1 iR))), qV rB, fun (x : ((List Path) × (List Int))) => S_sIsTogether x.1 x.2⟩
theorem ok_sIsTogether : Ok 25 E_sIsTogether := mk Try.func25 (by kernel_rfl) [((36, 0), E_sFindPath), ((37, 0), E_sConflict), ((17, 0), E_sArePaths)] [] n0 [(3, iR), (36, pathR)] { lv := [(2, ⟨[0, 1, 5], [], [], pV (rCo (rX .shr 4 pathR) (rCo (rX .shr 1 iR) (rOne rI))), []⟩), (8, ⟨[0, 1, 5, 6, 7], [], [], pV (rCo (rX .shr 4 pathR) (rCo (rX .shr 1 iR) (rCo rI (rCo rI (rOne rI))))), []⟩)] } ⟨ok_sFindPath, ok_sConflict, ok_sArePaths, trivial⟩ trivial (fun x => by kernel_rfl)
noncomputable def E_sIsFullStage : Entry := ⟨aV (rCo (rX .shr 4 pathR) (rOne (rX .shr 1 iR))), qV rB, fun (x : ((List Path) × (List Int))) => S_sIsFullStage x.1 x.2⟩
theorem ok_sIsFullStage : Ok 24 E_sIsFullStage := mk Try.func24 (by kernel_rfl) [((34, 0), E_sl6Has), ((35, 0), E_sl6Put), ((25, 0), E_sIsTogether)] [] n0 [(36, pathR)] { lv := [(2, ⟨[0, 1, 5], [], [], pV (rCo (rX .shr 4 pathR) (rCo (rX .shr 1 iR) (rOne rI))), []⟩)] } ⟨ok_sl6Has, ok_sl6Put, ok_sIsTogether, trivial⟩ trivial (fun x => by kernel_rfl)
noncomputable def E_sl6Search_n (n : Nat) : Entry := ⟨aV (rCo (rX .shr 4 pathR) (rCo rI (rCo (rX .own 1 iR) (rOne (rX .own 1 (rOne (rX .own 1 iR))))))), qV (rX .own 1 (rOne (rX .own 1 iR))), fun (x : ((List Path) × Int × (List Int) × (List (List Int)))) => S_sl6Search_n n x.1 x.2.1 x.2.2.1 x.2.2.2⟩
noncomputable def E_sl6Search : Entry := E_sl6Search_n 64
theorem ok_sl6Search_n : ∀ n, Ok 18 (E_sl6Search_n n)
  | 0 => by intro x r hr; cases hr
  | n + 1 => mk Try.func18 (by kernel_rfl) [((24, 0), E_sIsFullStage), ((25, 0), E_sIsTogether), ((18, 0), E_sl6Search_n n)] [] n0 [(36, pathR)] { tk := [(3, 0), (3, 2), (3, 3), (3, 4), (3, 5), (3, 6), (4, 0), (4, 1), (5, 9), (5, 10), (7, 3), (7, 4), (7, 5), (7, 6), (8, 3), (8, 4), (8, 5), (8, 6)] } ⟨ok_sIsFullStage, ok_sIsTogether, ok_sl6Search_n n, trivial⟩ trivial (fun x => by kernel_rfl)
theorem ok_sl6Search : Ok 18 E_sl6Search := ok_sl6Search_n 64
noncomputable def E_sStagesOf : Entry := ⟨aV (rOne (rX .shr 4 pathR)), qV (rX .own 1 (rOne (rX .own 1 iR))), fun (x : (List Path)) => S_sStagesOf x⟩
theorem ok_sStagesOf : Ok 13 E_sStagesOf := mk Try.func13 (by kernel_rfl) [((17, 0), E_sArePaths), ((18, 0), E_sl6Search)] [] n0 [] { tk := [(2, 1), (3, 3), (3, 4)] } ⟨ok_sArePaths, ok_sl6Search, trivial⟩ trivial (fun x => by kernel_rfl)
noncomputable def E_sStageSizes : Entry := ⟨aV (rOne (rX .shr 4 pathR)), qV (rX .own 1 iR), fun (x : (List Path)) => S_sStageSizes x⟩
theorem ok_sStageSizes : Ok 5 E_sStageSizes := mk Try.func5 (by kernel_rfl) [((13, 0), E_sStagesOf)] [] n0 [(24, (rOne (rX .shr 1 iR)))] { tk := [(1, 1), (2, 2), (6, 0), (6, 7), (6, 8), (7, 0), (7, 1)], lv := [(4, ⟨[3, 4, 5], [], [], pV (rCo (rX .own 1 iR) (rCo (rX .own 1 (rOne (rX .own 1 iR))) (rOne rI))), []⟩)] } ⟨ok_sStagesOf, trivial⟩ trivial (fun x => by kernel_rfl)
noncomputable def E_iInRange : Entry := ⟨aV (rCo rI (rCo rI (rOne rI))), qV rB, fun (x : (Int × Int × Int)) => S_iInRange x.1 x.2.1 x.2.2⟩
theorem ok_iInRange : Ok 38 E_iInRange := mk Try.func38 (by kernel_rfl) [] [] n0 [] {} trivial trivial (fun x => by kernel_rfl)
noncomputable def E_iIsPath : Entry := ⟨aV (rOne (rAg pathR)), qV rB, fun (x : Path) => S_iIsPath x⟩
theorem ok_iIsPath : Ok 26 E_iIsPath := mk Try.func26 (by kernel_rfl) [((38, 0), E_iInRange)] [] n0 [] {} ⟨ok_iInRange, trivial⟩ trivial (fun x => by kernel_rfl)
noncomputable def E_iArePaths : Entry := ⟨aV (rOne (rX .shr 4 pathR)), qV rB, fun (x : (List Path)) => S_iArePaths x⟩
theorem ok_iArePaths : Ok 19 E_iArePaths := mk Try.func19 (by kernel_rfl) [((26, 0), E_iIsPath)] [] n0 [(36, pathR)] { lv := [(4, ⟨[0, 8, 9, 10], [], [], pV (rCo (rX .shr 4 pathR) (rCo (rX .shr 4 pathR) (rCo rI (rOne rI)))), []⟩)] } ⟨ok_iIsPath, trivial⟩ trivial (fun x => by kernel_rfl)
noncomputable def E_iInPlace : Entry := ⟨aV (rOne rI), qV rI, fun (x : Int) => S_iInPlace x⟩
theorem ok_iInPlace : Ok 28 E_iInPlace := mk Try.func28 (by kernel_rfl) [((38, 0), E_iInRange)] [] n0 [] {} ⟨ok_iInRange, trivial⟩ trivial (fun x => by kernel_rfl)
noncomputable def E_iOutPlace : Entry := ⟨aV (rOne rI), qV rI, fun (x : Int) => S_iOutPlace x⟩
theorem ok_iOutPlace : Ok 29 E_iOutPlace := mk Try.func29 (by kernel_rfl) [((38, 0), E_iInRange)] [] n0 [] {} ⟨ok_iInRange, trivial⟩ trivial (fun x => by kernel_rfl)
noncomputable def E_iInterleave : Entry := ⟨aV (rCo rI (rCo rI (rCo rI (rOne rI)))), qV rB, fun (x : (Int × Int × Int × Int)) => S_iInterleave x.1 x.2.1 x.2.2.1 x.2.2.2⟩
theorem ok_iInterleave : Ok 27 E_iInterleave := mk Try.func27 (by kernel_rfl) [((38, 0), E_iInRange)] [] n0 [(3, iR)] { lv := [(2, ⟨[0, 1, 2, 3, 16, 17, 18], [], [], pV (rCo rI (rCo rI (rCo rI (rCo rI (rCo (rX .own 1 iR) (rCo rI (rOne rI))))))), []⟩)] } ⟨ok_iInRange, trivial⟩ trivial (fun x => by kernel_rfl)
noncomputable def E_iConflict : Entry := ⟨aV (rCo (rAg pathR) (rOne (rAg pathR))), qV rB, fun (x : (Path × Path)) => S_iConflict x.1 x.2⟩
theorem ok_iConflict : Ok 20 E_iConflict := mk Try.func20 (by kernel_rfl) [((26, 0), E_iIsPath), ((28, 0), E_iInPlace), ((29, 0), E_iOutPlace), ((27, 0), E_iInterleave)] [] n0 [] {} ⟨ok_iIsPath, ok_iInPlace, ok_iOutPlace, ok_iInterleave, trivial⟩ trivial (fun x => by kernel_rfl)
noncomputable def E_iStagesOf : Entry := ⟨aV (rOne (rX .shr 4 pathR)), qV (rX .shr 1 (rOne (rX .shr 1 iR))), fun (x : (List Path)) => S_iStagesOf x⟩
theorem ok_iStagesOf : Ok 15 E_iStagesOf := mk Try.func15 (by kernel_rfl) [((19, 0), E_iArePaths), ((20, 0), E_iConflict)] [((21, 0), E_slices_SortFunc_int_int)] n0 [(36, pathR)] { tk := [(1, 1), (3, 0), (3, 1), (18, 2), (26, 0), (26, 4), (26, 5), (29, 0), (29, 1), (29, 2), (29, 4)], hb := [((1, 0), 17), ((3, 1), 4), ((29, 3), 18), ((30, 0), 20), ((30, 1), 21), ((31, 0), 22)], vr := [((29, 3), 1)], ro := [(22, iR)], lv := [(6, ⟨[0, 3, 23, 24, 25], [(4, 22, true)], [(22, 1, true, false)], pVO (rCo (rX .shr 4 pathR) (rCo (rX .unq 1 (rOne (rX .own 1 iR))) (rCo (rX .shr 4 pathR) (rCo rI (rOne rI))))) (oArr1 iR), []⟩), (9, ⟨[0, 3, 5, 23, 24, 25, 30, 31, 32], [(4, 22, true), (6, 6, false)], [(6, 4, false, false), (22, 1, true, false)], pVO (rCo (rX .shr 4 pathR) (rCo (rX .unq 1 (rOne (rX .own 1 iR))) (rCo rI (rCo (rX .shr 4 pathR) (rCo rI (rCo rI (rCo (rX .shr 4 pathR) (rCo rI (rOne rI))))))))) (oRow pathR (oArr1 iR)), []⟩), (16, ⟨[0, 3, 9], [(4, 22, true)], [(22, 1, true, false)], pVO (rCo (rX .shr 4 pathR) (rCo (rX .unq 1 (rOne (rX .own 1 iR))) (rOne rI))) (oArr1 iR), []⟩), (20, ⟨[0, 3, 9, 10, 11, 58, 59, 60], [(4, 22, true)], [(22, 1, true, false)], pVO (rCo (rX .shr 4 pathR) (rCo (rX .unq 1 (rOne (rX .own 1 iR))) (rCo rI (rCo rB (rCo (rX .own 1 iR) (rCo (rX .shr 4 pathR) (rCo rI (rOne rI)))))))) (oArr1 iR), []⟩)] } ⟨ok_iArePaths, ok_iConflict, trivial⟩ ⟨ok_slices_SortFunc_int_int, trivial⟩ (fun x => by kernel_rfl)
noncomputable def E_iStageSizes : Entry := ⟨aV (rOne (rX .shr 4 pathR)), qV (rX .own 1 iR), fun (x : (List Path)) => S_iStageSizes x⟩
theorem ok_iStageSizes : Ok 7 E_iStageSizes := mk Try.func7 (by kernel_rfl) [((15, 0), E_iStagesOf)] [] n0 [(24, (rOne (rX .shr 1 iR)))] { tk := [(1, 1), (5, 0), (5, 4), (5, 5), (7, 0), (7, 1)], lv := [(3, ⟨[3, 8, 9, 10], [], [], pV (rCo (rX .own 1 iR) (rCo (rX .shr 1 (rOne (rX .shr 1 iR))) (rCo rI (rOne rI)))), []⟩)] } ⟨ok_iStagesOf, trivial⟩ trivial (fun x => by kernel_rfl)
noncomputable def E_leqIntS : Entry := ⟨aV (rCo (rX .shr 1 iR) (rOne (rX .shr 1 iR))), qV rB, fun (x : ((List Int) × (List Int))) => S_leqIntS x.1 x.2⟩
theorem ok_leqIntS : Ok 8 E_leqIntS := mk Try.func8 (by kernel_rfl) [] [] n0 [(3, iR)] { lv := [(4, ⟨[0, 1, 5], [], [], pV (rCo (rX .shr 1 iR) (rCo (rX .shr 1 iR) (rOne rI))), []⟩)] } trivial trivial (fun x => by kernel_rfl)
noncomputable def E_leqPath : Entry := ⟨aV (rCo (rAg pathR) (rOne (rAg pathR))), qV rB, fun (x : (Path × Path)) => S_leqPath x.1 x.2⟩
theorem ok_leqPath : Ok 16 E_leqPath := mk Try.func16 (by kernel_rfl) [] [] n0 [] {} trivial trivial (fun x => by kernel_rfl)
noncomputable def E_leqPathS : Entry := ⟨aV (rCo (rX .shr 4 pathR) (rOne (rX .shr 4 pathR))), qV rB, fun (x : ((List Path) × (List Path))) => S_leqPathS x.1 x.2⟩
theorem ok_leqPathS : Ok 9 E_leqPathS := mk Try.func9 (by kernel_rfl) [((16, 0), E_leqPath)] [] n0 [(36, pathR)] { lv := [(4, ⟨[0, 1, 5], [], [], pV (rCo (rX .shr 4 pathR) (rCo (rX .shr 4 pathR) (rOne rI))), []⟩)] } ⟨ok_leqPath, trivial⟩ trivial (fun x => by kernel_rfl)
noncomputable def E_lmarkPathS : Entry := ⟨aV (rCo (rX .unq 4 pathR) (rOne rI)), qV (rTu (rCo rI (rOne (rX .unq 4 pathR)))), fun (x : ((List Path) × Int)) => S_lmarkPathS x.1 x.2⟩
theorem ok_lmarkPathS : OkU 10 E_lmarkPathS := mkU Try.func10 (by kernel_rfl) [] [] n0 [] { ro := [(0, pathR)], lv := [(2, ⟨[1, 5], [(0, 0, true)], [(0, 4, true, false)], pVO (rCo rI (rOne rI)) (oArr1 pathR), []⟩)] } trivial trivial (fun x => by kernel_rfl)
noncomputable def E_lmarkIntS : Entry := ⟨aV (rCo (rX .unq 1 iR) (rOne rI)), qV (rTu (rCo rI (rOne (rX .unq 1 iR)))), fun (x : ((List Int) × Int)) => S_lmarkIntS x.1 x.2⟩
theorem ok_lmarkIntS : OkU 11 E_lmarkIntS := mkU Try.func11 (by kernel_rfl) [] [] n0 [] { ro := [(0, iR)], lv := [(2, ⟨[1, 5], [(0, 0, true)], [(0, 1, true, false)], pVO (rCo rI (rOne rI)) (oArr1 iR), []⟩)] } trivial trivial (fun x => by kernel_rfl)
noncomputable def E_lheldIntS : Entry := ⟨aV (rCo (rX .shr 1 iR) (rOne rI)), qV rI, fun (x : ((List Int) × Int)) => S_lheldIntS x.1 x.2⟩
theorem ok_lheldIntS : Ok 12 E_lheldIntS := mk Try.func12 (by kernel_rfl) [] [] n0 [(3, iR)] { lv := [(2, ⟨[0, 1, 5], [], [], pV (rCo (rX .shr 1 iR) (rCo rI (rOne rI))), []⟩)] } trivial trivial (fun x => by kernel_rfl)
noncomputable def E_lFnExactStageSizes : Entry := ⟨aV (rOne (rX .shr 4 pathR)), qV rB, fun (x : (List Path)) => S_lFnExactStageSizes x⟩
theorem ok_lFnExactStageSizes : Ok 3 E_lFnExactStageSizes := mk Try.func3 (by kernel_rfl) [((4, 0), E_lszPathS), ((6, 0), E_ltoPathS), ((5, 0), E_sStageSizes), ((7, 0), E_iStageSizes), ((8, 0), E_leqIntS), ((9, 0), E_leqPathS), ((12, 0), E_lheldIntS)] [((10, 0), E_lmarkPathS), ((11, 0), E_lmarkIntS)] n0 [] { tk := [(5, 3), (25, 1)], hb := [((6, 1), 2), ((7, 1), 2), ((8, 2), 2), ((10, 3), 2), ((13, 2), 3), ((14, 5), 2), ((17, 2), 3), ((19, 2), 2), ((24, 2), 2), ((25, 2), 2), ((28, 2), 2)], th := [(6, 1), (7, 1), (24, 2)], rt := [((6, 1), (rX .unq 4 pathR)), ((7, 1), (rX .unq 1 iR)), ((24, 2), (rX .unq 1 iR))] } ⟨ok_lszPathS, ok_ltoPathS, ok_sStageSizes, ok_iStageSizes, ok_leqIntS, ok_leqPathS, ok_lheldIntS, trivial⟩ ⟨ok_lmarkPathS, ok_lmarkIntS, trivial⟩ (fun x => by kernel_rfl)
end Go.Proofs.Ytkbhcieejpbjpaa
