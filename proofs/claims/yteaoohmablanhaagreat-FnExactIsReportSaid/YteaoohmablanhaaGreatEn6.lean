/- Part of the proof: see the last text of the claim. -/
import Derived.Test.YteaoohmablanhaaGreatSh6
import Derived.KernelRfl
import Derived.Test.YteaoohmablanhaaGreatRows
set_option linter.all false
namespace Go.Proofs.YteaoohmablanhaaGreat
open Go.Fx Go.Sh
set_option maxRecDepth 100000
set_option linter.unusedSectionVars false
def emS : Value := .string ⟨#[]⟩
def tab : List (Nat × TD) := [(3, .sc (.int .i64 0)),
  (4, .sc (.bool false)),
  (9, .sc emS),
  (22, .sl 84 4),
  (23, .sl 3 1),
  (25, .st [(some 1, .slice none 0 0), (none, .int .i64 0), (some 1, .slice none 0 0), (none, .int .i64 0)] [(0, 1), (1, 1), (2, 1), (3, 1)]),
  (26, .sl 89 2),
  (28, .st [(none, .int .i64 0), (none, .int .i64 0)] [(0, 1), (1, 1)]),
  (29, .sl 93 3),
  (30, .sl 75 3),
  (32, .st [(some 4, .slice none 0 0), (some 1, .slice none 0 0), (none, .int .i64 0), (some 1, .slice none 0 0), (none, .int .i64 0), (some 2, .slice none 0 0), (none, .int .i64 0), (none, .int .i64 0), (some 3, .slice none 0 0), (none, .bool false), (some 3, .slice none 0 0), (none, .int .i64 0), (none, .int .i64 0)] [(0, 1), (1, 4), (5, 1), (6, 2), (8, 1), (9, 1), (10, 1), (11, 1), (12, 1)]),
  (34, .st [(none, .int .i64 0), (none, .int .i64 0), (none, .int .i64 0), (none, .int .i64 0), (none, .int .i64 0)] [(0, 1), (1, 1), (2, 1), (3, 1), (4, 1)]),
  (37, .sl 82 4),
  (38, .st [(some 1, .slice none 0 0), (none, .int .i64 0), (some 1, .slice none 0 0), (none, .int .i64 0)] [(0, 1), (1, 1), (2, 1), (3, 1)]),
  (39, .sl 87 2),
  (40, .st [(none, .int .i64 0), (none, .int .i64 0)] [(0, 1), (1, 1)]),
  (41, .sl 91 3),
  (42, .sl 94 3),
  (44, .st [(some 4, .slice none 0 0), (some 1, .slice none 0 0), (none, .int .i64 0), (some 1, .slice none 0 0), (none, .int .i64 0), (some 2, .slice none 0 0), (none, .int .i64 0), (none, .int .i64 0), (some 3, .slice none 0 0), (none, .bool false), (some 3, .slice none 0 0), (none, .int .i64 0), (none, .int .i64 0)] [(0, 1), (1, 4), (5, 1), (6, 2), (8, 1), (9, 1), (10, 1), (11, 1), (12, 1)]),
  (46, .st [(none, .int .i64 0), (none, .int .i64 0), (none, .int .i64 0), (none, .int .i64 0), (none, .int .i64 0)] [(0, 1), (1, 1), (2, 1), (3, 1), (4, 1)]),
  (75, .st [(none, .int .i64 0), (some 1, .slice none 0 0), (none, .int .i64 0)] [(0, 1), (1, 1), (2, 1)]),
  (82, .st [(none, .int .i64 0), (none, .int .i64 0), (none, .int .i64 0), (none, .int .i64 0)] [(0, 1), (1, 1), (2, 1), (3, 1)]),
  (84, .st [(none, .int .i64 0), (none, .int .i64 0), (none, .int .i64 0), (none, .int .i64 0)] [(0, 1), (1, 1), (2, 1), (3, 1)]),
  (87, .st [(none, .int .i64 0), (none, .int .i64 0)] [(0, 1), (1, 1)]),
  (89, .st [(none, .int .i64 0), (none, .int .i64 0)] [(0, 1), (1, 1)]),
  (91, .st [(none, .int .i64 0), (none, .int .i64 0), (none, .bool false)] [(0, 1), (1, 1), (2, 1)]),
  (93, .st [(none, .int .i64 0), (none, .int .i64 0), (none, .bool false)] [(0, 1), (1, 1), (2, 1)]),
  (94, .st [(none, .int .i64 0), (some 1, .slice none 0 0), (none, .int .i64 0)] [(0, 1), (1, 1), (2, 1)]),
  (112, .sc .nilFunc),
  (133, .sc .nilFunc)]
theorem tab_ok : TOk Tryz.prog (tabT tab) := tabT_ok (by kernel_rfl)
theorem mixed : Tryz.prog.follows .mixedOrders = true := by kernel_rfl
abbrev nG : Nat := 0
abbrev gG : Nat → Option Obj := fun _ => none
abbrev Ok (f : Nat) (en : Entry) : Prop := EntryOk Tryz.prog nG gG f en
theorem mk {f : Nat} {fn : Func} {en : Entry} (hfn : Tryz.prog.funcs[f]? = some fn) (hname : (fn.name == "runtime.NumGoroutine") = false) (cs : List ((Nat × Nat) × Entry)) (R : List (Nat × RR)) (h : Hints) (hcs : AllOk Tryz.prog nG gG cs)
    (hL : ∀ x, evalBody (ctxOf (tabT tab) cs (fun _ => false) R h fn.ntmps NN) fn en.rs (en.ps.enc x).1 (en.ps.enc x).2 = en.S x) : Ok f en := fn_ok tab_ok mixed hfn hname hcs hL
noncomputable def E_lszPathS : Entry := ⟨aV (rCo (rX .shr 4 pathR) (rOne rI)), qV rI, fun (x : ((List Path) × Int)) => S_lszPathS x.1 x.2⟩
theorem ok_lszPathS : Ok 13 E_lszPathS := mk Tryz.func13 (by kernel_rfl) [] [] {} trivial (fun x => by kernel_rfl)
noncomputable def E_lszIntS : Entry := ⟨aV (rCo (rX .shr 1 iR) (rOne rI)), qV rI, fun (x : ((List Int) × Int)) => S_lszIntS x.1 x.2⟩
theorem ok_lszIntS : Ok 40 E_lszIntS := mk Tryz.func40 (by kernel_rfl) [] [] {} trivial (fun x => by kernel_rfl)
noncomputable def E_lszControl : Entry := ⟨aV (rCo (rAg (controlR .shr .shr)) (rOne rI)), qV rI, fun (x : (Control × Int)) => S_lszControl x.1 x.2⟩
theorem ok_lszControl : Ok 14 E_lszControl := mk Tryz.func14 (by kernel_rfl) [((40, 0), E_lszIntS)] [] {} ⟨ok_lszIntS, trivial⟩ (fun x => by kernel_rfl)
noncomputable def E_lszWantS : Entry := ⟨aV (rCo (rX .shr 2 wantR) (rOne rI)), qV rI, fun (x : ((List Want) × Int)) => S_lszWantS x.1 x.2⟩
theorem ok_lszWantS : Ok 15 E_lszWantS := mk Tryz.func15 (by kernel_rfl) [] [] {} trivial (fun x => by kernel_rfl)
noncomputable def E_lszLampS : Entry := ⟨aV (rCo (rX .shr 3 lampR) (rOne rI)), qV rI, fun (x : ((List Lamp) × Int)) => S_lszLampS x.1 x.2⟩
theorem ok_lszLampS : Ok 16 E_lszLampS := mk Tryz.func16 (by kernel_rfl) [] [] {} trivial (fun x => by kernel_rfl)
noncomputable def E_lszEntry : Entry := ⟨aV (rCo (rAg (noteR .shr)) (rOne rI)), qV rI, fun (x : (Note × Int)) => S_lszEntry x.1 x.2⟩
theorem ok_lszEntry : Ok 41 E_lszEntry := mk Tryz.func41 (by kernel_rfl) [((40, 0), E_lszIntS)] [] {} ⟨ok_lszIntS, trivial⟩ (fun x => by kernel_rfl)
noncomputable def E_lszEntryS : Entry := ⟨aV (rCo (rX .shr 3 (noteR .shr)) (rOne rI)), qV rI, fun (x : ((List Note) × Int)) => S_lszEntryS x.1 x.2⟩
theorem ok_lszEntryS : Ok 17 E_lszEntryS := mk Tryz.func17 (by kernel_rfl) [((41, 0), E_lszEntry)] [(75, (noteR .shr))] { lv := [(5, ⟨[0, 1, 5], [], [], pV (rCo (rX .shr 3 (noteR .shr)) (rCo rI (rOne rI)))⟩)] } ⟨ok_lszEntry, trivial⟩ (fun x => by kernel_rfl)
noncomputable def E_lszTown : Entry := ⟨aV (rCo (rAg (townR .shr .shr .shr .shr .shr .shr .shr)) (rOne rI)), qV rI, fun (x : (Town × Int)) => S_lszTown x.1 x.2⟩
theorem ok_lszTown : Ok 5 E_lszTown := mk Tryz.func5 (by kernel_rfl) [((13, 0), E_lszPathS), ((14, 0), E_lszControl), ((15, 0), E_lszWantS), ((16, 0), E_lszLampS), ((17, 0), E_lszEntryS)] [] {} ⟨ok_lszPathS, ok_lszControl, ok_lszWantS, ok_lszLampS, ok_lszEntryS, trivial⟩ (fun x => by kernel_rfl)
noncomputable def E_ltoPath : Entry := ⟨aV (rOne (rAg pathR)), qV (rAg pathR), fun (x : Path) => S_ltoPath x⟩
theorem ok_ltoPath : Ok 46 E_ltoPath := mk Tryz.func46 (by kernel_rfl) [] [] {} trivial (fun x => by kernel_rfl)
noncomputable def E_ltoPathS : Entry := ⟨aV (rOne (rX .shr 4 pathR)), qV (rX .own 4 pathR), fun (x : (List Path)) => S_ltoPathS x⟩
theorem ok_ltoPathS : Ok 19 E_ltoPathS := mk Tryz.func19 (by kernel_rfl) [((46, 0), E_ltoPath)] [(84, pathR)] { ro := [(7, pathR)], lv := [(3, ⟨[0, 4], [(3, 7, true)], [(7, 4, true, false)], pVO (rCo (rX .shr 4 pathR) (rOne rI)) (oArr1 pathR)⟩)] } ⟨ok_ltoPath, trivial⟩ (fun x => by kernel_rfl)
noncomputable def E_ltoIntS : Entry := ⟨aV (rOne (rX .shr 1 iR)), qV (rX .own 1 iR), fun (x : (List Int)) => S_ltoIntS x⟩
theorem ok_ltoIntS : Ok 47 E_ltoIntS := mk Tryz.func47 (by kernel_rfl) [] [(3, iR)] { ro := [(7, iR)], lv := [(3, ⟨[0, 4], [(3, 7, true)], [(7, 1, true, false)], pVO (rCo (rX .shr 1 iR) (rOne rI)) (oArr1 iR)⟩)] } trivial (fun x => by kernel_rfl)
noncomputable def E_ltoControl : Entry := ⟨aV (rOne (rAg (controlR .shr .shr))), qV (rAg (controlR .own .own)), fun (x : Control) => S_ltoControl x⟩
theorem ok_ltoControl : Ok 20 E_ltoControl := mk Tryz.func20 (by kernel_rfl) [((47, 0), E_ltoIntS)] [] { tk := [(2, 4), (4, 4), (6, 1)], mo := [(6, 0)] } ⟨ok_ltoIntS, trivial⟩ (fun x => by kernel_rfl)
noncomputable def E_ltoWant : Entry := ⟨aV (rOne (rAg wantR)), qV (rAg wantR), fun (x : Want) => S_ltoWant x⟩
theorem ok_ltoWant : Ok 48 E_ltoWant := mk Tryz.func48 (by kernel_rfl) [] [] {} trivial (fun x => by kernel_rfl)
noncomputable def E_ltoWantS : Entry := ⟨aV (rOne (rX .shr 2 wantR)), qV (rX .own 2 wantR), fun (x : (List Want)) => S_ltoWantS x⟩
theorem ok_ltoWantS : Ok 21 E_ltoWantS := mk Tryz.func21 (by kernel_rfl) [((48, 0), E_ltoWant)] [(89, wantR)] { ro := [(7, wantR)], lv := [(3, ⟨[0, 4], [(3, 7, true)], [(7, 2, true, false)], pVO (rCo (rX .shr 2 wantR) (rOne rI)) (oArr1 wantR)⟩)] } ⟨ok_ltoWant, trivial⟩ (fun x => by kernel_rfl)
noncomputable def E_ltoPrio : Entry := ⟨aV (rOne (rAg prioR)), qV (rAg prioR), fun (x : Prio) => S_ltoPrio x⟩
theorem ok_ltoPrio : Ok 22 E_ltoPrio := mk Tryz.func22 (by kernel_rfl) [] [] {} trivial (fun x => by kernel_rfl)
noncomputable def E_ltoLamp : Entry := ⟨aV (rOne (rAg lampR)), qV (rAg lampR), fun (x : Lamp) => S_ltoLamp x⟩
theorem ok_ltoLamp : Ok 49 E_ltoLamp := mk Tryz.func49 (by kernel_rfl) [] [] {} trivial (fun x => by kernel_rfl)
noncomputable def E_ltoLampS : Entry := ⟨aV (rOne (rX .shr 3 lampR)), qV (rX .own 3 lampR), fun (x : (List Lamp)) => S_ltoLampS x⟩
theorem ok_ltoLampS : Ok 23 E_ltoLampS := mk Tryz.func23 (by kernel_rfl) [((49, 0), E_ltoLamp)] [(93, lampR)] { ro := [(7, lampR)], lv := [(3, ⟨[0, 4], [(3, 7, true)], [(7, 3, true, false)], pVO (rCo (rX .shr 3 lampR) (rOne rI)) (oArr1 lampR)⟩)] } ⟨ok_ltoLamp, trivial⟩ (fun x => by kernel_rfl)
noncomputable def E_ltoEntry : Entry := ⟨aV (rOne (rAg (noteR .shr))), qV (rAg (noteR .own)), fun (x : Note) => S_ltoEntry x⟩
theorem ok_ltoEntry : Ok 50 E_ltoEntry := mk Tryz.func50 (by kernel_rfl) [((47, 0), E_ltoIntS)] [] { tk := [(3, 4), (5, 1)], mo := [(5, 0)] } ⟨ok_ltoIntS, trivial⟩ (fun x => by kernel_rfl)
noncomputable def E_ltoEntryS : Entry := ⟨aV (rOne (rX .shr 3 (noteR .shr))), qV (rX .own 3 (noteR .own)), fun (x : (List Note)) => S_ltoEntryS x⟩
theorem ok_ltoEntryS : Ok 24 E_ltoEntryS := mk Tryz.func24 (by kernel_rfl) [((50, 0), E_ltoEntry)] [(75, (noteR .shr))] { tk := [(5, 8)], ro := [(7, (noteR .own))], lv := [(3, ⟨[0, 4], [(3, 7, true)], [(7, 3, true, false)], pVO (rCo (rX .shr 3 (noteR .shr)) (rOne rI)) (oArr1 (noteR .own))⟩)] } ⟨ok_ltoEntry, trivial⟩ (fun x => by kernel_rfl)
noncomputable def E_ltoTown : Entry := ⟨aV (rOne (rAg (townR .shr .shr .shr .shr .shr .shr .shr))), qV (rAg (townR .own .own .own .own .own .own .own)), fun (x : Town) => S_ltoTown x⟩
theorem ok_ltoTown : Ok 7 E_ltoTown := mk Tryz.func7 (by kernel_rfl) [((19, 0), E_ltoPathS), ((20, 0), E_ltoControl), ((21, 0), E_ltoWantS), ((22, 0), E_ltoPrio), ((23, 0), E_ltoLampS), ((24, 0), E_ltoEntryS)] [] { tk := [(2, 4), (3, 4), (4, 4), (6, 4), (8, 4), (11, 1)], mo := [(11, 0)] } ⟨ok_ltoPathS, ok_ltoControl, ok_ltoWantS, ok_ltoPrio, ok_ltoLampS, ok_ltoEntryS, trivial⟩ (fun x => by kernel_rfl)
noncomputable def E_ltoReport : Entry := ⟨aV (rOne (rAg reportR)), qV (rAg reportR), fun (x : Report) => S_ltoReport x⟩
theorem ok_ltoReport : Ok 8 E_ltoReport := mk Tryz.func8 (by kernel_rfl) [] [] {} trivial (fun x => by kernel_rfl)
noncomputable def E_sFindPath : Entry := ⟨aV (rCo (rX .shr 4 pathR) (rOne rI)), qV rI, fun (x : ((List Path) × Int)) => S_sFindPath x.1 x.2⟩
theorem ok_sFindPath : Ok 83 E_sFindPath := mk Tryz.func83 (by kernel_rfl) [] [(82, pathR)] { lv := [(2, ⟨[0, 1, 5], [], [], pV (rCo (rX .shr 4 pathR) (rCo rI (rOne rI)))⟩)] } trivial (fun x => by kernel_rfl)
noncomputable def E_sl38Index : Entry := ⟨aV (rCo (rAg (townR .shr .shr .shr .shr .shr .shr .shr)) (rOne rI)), qV rI, fun (x : (Town × Int)) => S_sl38Index x.1 x.2⟩
theorem ok_sl38Index : Ok 42 E_sl38Index := mk Tryz.func42 (by kernel_rfl) [((83, 0), E_sFindPath)] [] {} ⟨ok_sFindPath, trivial⟩ (fun x => by kernel_rfl)
noncomputable def E_sl1In : Entry := ⟨aV (rCo rI (rCo rI (rOne rI))), qV rB, fun (x : (Int × Int × Int)) => S_sl1In x.1 x.2.1 x.2.2⟩
theorem ok_sl1In : Ok 66 E_sl1In := mk Tryz.func66 (by kernel_rfl) [] [] {} trivial (fun x => by kernel_rfl)
noncomputable def E_sIsPath : Entry := ⟨aV (rOne (rAg pathR)), qV rB, fun (x : Path) => S_sIsPath x⟩
theorem ok_sIsPath : Ok 86 E_sIsPath := mk Tryz.func86 (by kernel_rfl) [((66, 0), E_sl1In)] [] {} ⟨ok_sl1In, trivial⟩ (fun x => by kernel_rfl)
noncomputable def E_sInPlace : Entry := ⟨aV (rOne rI), qV rI, fun (x : Int) => S_sInPlace x⟩
theorem ok_sInPlace : Ok 88 E_sInPlace := mk Tryz.func88 (by kernel_rfl) [((66, 0), E_sl1In)] [] {} ⟨ok_sl1In, trivial⟩ (fun x => by kernel_rfl)
noncomputable def E_sOutPlace : Entry := ⟨aV (rOne rI), qV rI, fun (x : Int) => S_sOutPlace x⟩
theorem ok_sOutPlace : Ok 89 E_sOutPlace := mk Tryz.func89 (by kernel_rfl) [((66, 0), E_sl1In)] [] {} ⟨ok_sl1In, trivial⟩ (fun x => by kernel_rfl)
noncomputable def E_sInterleave : Entry := ⟨aV (rCo rI (rCo rI (rCo rI (rOne rI)))), qV rB, fun (x : (Int × Int × Int × Int)) => S_sInterleave x.1 x.2.1 x.2.2.1 x.2.2.2⟩
theorem ok_sInterleave : Ok 87 E_sInterleave := mk Tryz.func87 (by kernel_rfl) [((66, 0), E_sl1In)] [(3, iR)] { tk := [(1, 5)], lv := [(3, ⟨[0, 1, 2, 3, 9, 10], [], [], pV (rCo rI (rCo rI (rCo rI (rCo rI (rCo (rX .own 1 iR) (rOne rI))))))⟩), (6, ⟨[0, 1, 2, 3, 9, 10, 11], [], [], pV (rCo rI (rCo rI (rCo rI (rCo rI (rCo (rX .own 1 iR) (rCo rI (rOne rI)))))))⟩), (14, ⟨[1, 2, 3, 12, 13], [], [], pV (rCo rI (rCo rI (rCo rI (rCo rI (rOne rI)))))⟩)] } ⟨ok_sl1In, trivial⟩ (fun x => by kernel_rfl)
noncomputable def E_sConflict : Entry := ⟨aV (rCo (rAg pathR) (rOne (rAg pathR))), qV rB, fun (x : (Path × Path)) => S_sConflict x.1 x.2⟩
theorem ok_sConflict : Ok 45 E_sConflict := mk Tryz.func45 (by kernel_rfl) [((86, 0), E_sIsPath), ((88, 0), E_sInPlace), ((89, 0), E_sOutPlace), ((87, 0), E_sInterleave)] [] {} ⟨ok_sIsPath, ok_sInPlace, ok_sOutPlace, ok_sInterleave, trivial⟩ (fun x => by kernel_rfl)
noncomputable def E_sArePaths : Entry := ⟨aV (rOne (rX .shr 4 pathR)), qV rB, fun (x : (List Path)) => S_sArePaths x⟩
theorem ok_sArePaths : Ok 100 E_sArePaths := mk Tryz.func100 (by kernel_rfl) [((86, 0), E_sIsPath)] [(82, pathR)] { lv := [(2, ⟨[0, 3], [], [], pV (rCo (rX .shr 4 pathR) (rOne rI))⟩)] } ⟨ok_sIsPath, trivial⟩ (fun x => by kernel_rfl)
noncomputable def E_sIsTogether : Entry := ⟨aV (rCo (rX .shr 4 pathR) (rOne (rX .shr 1 iR))), qV rB, fun (x : ((List Path) × (List Int))) => S_sIsTogether x.1 x.2⟩
theorem ok_sIsTogether : Ok 98 E_sIsTogether := mk Tryz.func98 (by kernel_rfl) [((83, 0), E_sFindPath), ((45, 0), E_sConflict), ((100, 0), E_sArePaths)] [(3, iR), (82, pathR)] { lv := [(2, ⟨[0, 1, 5], [], [], pV (rCo (rX .shr 4 pathR) (rCo (rX .shr 1 iR) (rOne rI)))⟩), (8, ⟨[0, 1, 5, 6, 7], [], [], pV (rCo (rX .shr 4 pathR) (rCo (rX .shr 1 iR) (rCo rI (rCo rI (rOne rI)))))⟩)] } ⟨ok_sFindPath, ok_sConflict, ok_sArePaths, trivial⟩ (fun x => by kernel_rfl)
noncomputable def E_sl6Has : Entry := ⟨aV (rCo (rX .shr 1 iR) (rOne rI)), qV rB, fun (x : ((List Int) × Int)) => S_sl6Has x.1 x.2⟩
theorem ok_sl6Has : Ok 121 E_sl6Has := mk Tryz.func121 (by kernel_rfl) [] [(3, iR)] { lv := [(2, ⟨[0, 1, 5], [], [], pV (rCo (rX .shr 1 iR) (rCo rI (rOne rI)))⟩)] } trivial (fun x => by kernel_rfl)
noncomputable def E_sCloses : Entry := ⟨aV (rCo (rX .shr 1 iR) (rOne (rX .shr 1 iR))), qV (rX .own 1 iR), fun (x : ((List Int) × (List Int))) => S_sCloses x.1 x.2⟩
theorem ok_sCloses : Ok 116 E_sCloses := mk Tryz.func116 (by kernel_rfl) [((121, 0), E_sl6Has)] [(3, iR)] { tk := [(1, 1), (6, 0), (6, 6), (6, 7), (7, 0), (7, 1)], lv := [(3, ⟨[0, 1, 5, 6], [], [], pV (rCo (rX .shr 1 iR) (rCo (rX .shr 1 iR) (rCo (rX .own 1 iR) (rOne rI))))⟩)] } ⟨ok_sl6Has, trivial⟩ (fun x => by kernel_rfl)
noncomputable def E_sClearOf : Entry := ⟨aV (rOne (rAg pathR)), qV rI, fun (x : Path) => S_sClearOf x⟩
theorem ok_sClearOf : Ok 118 E_sClearOf := mk Tryz.func118 (by kernel_rfl) [((86, 0), E_sIsPath)] [(3, iR)] {} ⟨ok_sIsPath, trivial⟩ (fun x => by kernel_rfl)
noncomputable def E_sMax : Entry := ⟨aV (rCo rI (rOne rI)), qV rI, fun (x : (Int × Int)) => S_sMax x.1 x.2⟩
theorem ok_sMax : Ok 117 E_sMax := mk Tryz.func117 (by kernel_rfl) [] [] {} trivial (fun x => by kernel_rfl)
noncomputable def E_sClearBetween : Entry := ⟨aV (rCo (rX .shr 4 pathR) (rCo (rX .shr 1 iR) (rOne (rX .shr 1 iR)))), qV rI, fun (x : ((List Path) × (List Int) × (List Int))) => S_sClearBetween x.1 x.2.1 x.2.2⟩
theorem ok_sClearBetween : Ok 99 E_sClearBetween := mk Tryz.func99 (by kernel_rfl) [((116, 0), E_sCloses), ((98, 0), E_sIsTogether), ((83, 0), E_sFindPath), ((45, 0), E_sConflict), ((118, 0), E_sClearOf), ((117, 0), E_sMax)] [(3, iR), (82, pathR)] { tk := [(2, 3), (3, 3)], lv := [(5, ⟨[0, 1, 2, 7, 8, 9, 10], [], [], pV (rCo (rX .shr 4 pathR) (rCo (rX .shr 1 iR) (rCo (rX .shr 1 iR) (rCo rI (rCo (rX .own 1 iR) (rCo (rX .own 1 iR) (rOne rI)))))))⟩), (8, ⟨[0, 1, 2, 7, 8, 9, 10, 11], [], [], pV (rCo (rX .shr 4 pathR) (rCo (rX .shr 1 iR) (rCo (rX .shr 1 iR) (rCo rI (rCo (rX .own 1 iR) (rCo (rX .own 1 iR) (rCo rI (rOne rI))))))))⟩)] } ⟨ok_sCloses, ok_sIsTogether, ok_sFindPath, ok_sConflict, ok_sClearOf, ok_sMax, trivial⟩ (fun x => by kernel_rfl)
noncomputable def E_sIsControl : Entry := ⟨aV (rCo (rX .shr 4 pathR) (rOne (rAg (controlR .shr .shr)))), qV rB, fun (x : ((List Path) × Control)) => S_sIsControl x.1 x.2⟩
theorem ok_sIsControl : Ok 60 E_sIsControl := mk Tryz.func60 (by kernel_rfl) [((98, 0), E_sIsTogether), ((66, 0), E_sl1In), ((99, 0), E_sClearBetween)] [] {} ⟨ok_sIsTogether, ok_sl1In, ok_sClearBetween, trivial⟩ (fun x => by kernel_rfl)
noncomputable def E_sAreWants : Entry := ⟨aV (rCo (rX .shr 4 pathR) (rOne (rX .shr 2 wantR))), qV rB, fun (x : ((List Path) × (List Want))) => S_sAreWants x.1 x.2⟩
theorem ok_sAreWants : Ok 61 E_sAreWants := mk Tryz.func61 (by kernel_rfl) [((83, 0), E_sFindPath), ((66, 0), E_sl1In), ((100, 0), E_sArePaths)] [(87, wantR)] { lv := [(2, ⟨[0, 1, 5], [], [], pV (rCo (rX .shr 4 pathR) (rCo (rX .shr 2 wantR) (rOne rI)))⟩)] } ⟨ok_sFindPath, ok_sl1In, ok_sArePaths, trivial⟩ (fun x => by kernel_rfl)
noncomputable def E_sIsPrio : Entry := ⟨aV (rCo (rX .shr 4 pathR) (rOne (rAg prioR))), qV rB, fun (x : ((List Path) × Prio)) => S_sIsPrio x.1 x.2⟩
theorem ok_sIsPrio : Ok 62 E_sIsPrio := mk Tryz.func62 (by kernel_rfl) [((100, 0), E_sArePaths), ((83, 0), E_sFindPath), ((66, 0), E_sl1In)] [(82, pathR)] {} ⟨ok_sArePaths, ok_sFindPath, ok_sl1In, trivial⟩ (fun x => by kernel_rfl)
noncomputable def E_sAreLamps : Entry := ⟨aV (rCo (rX .shr 4 pathR) (rOne (rX .shr 3 lampR))), qV rB, fun (x : ((List Path) × (List Lamp))) => S_sAreLamps x.1 x.2⟩
theorem ok_sAreLamps : Ok 63 E_sAreLamps := mk Tryz.func63 (by kernel_rfl) [((83, 0), E_sFindPath), ((66, 0), E_sl1In), ((100, 0), E_sArePaths)] [(91, lampR)] { lv := [(2, ⟨[0, 1, 5], [], [], pV (rCo (rX .shr 4 pathR) (rCo (rX .shr 3 lampR) (rOne rI)))⟩), (7, ⟨[0, 1, 5, 6], [], [], pV (rCo (rX .shr 4 pathR) (rCo (rX .shr 3 lampR) (rCo rI (rOne rI))))⟩)] } ⟨ok_sFindPath, ok_sl1In, ok_sArePaths, trivial⟩ (fun x => by kernel_rfl)
noncomputable def E_sMod : Entry := ⟨aV (rCo rI (rOne rI)), qV rI, fun (x : (Int × Int)) => S_sMod x.1 x.2⟩
theorem ok_sMod : Ok 127 E_sMod := mk Tryz.func127 (by kernel_rfl) [((66, 0), E_sl1In)] [] {} ⟨ok_sl1In, trivial⟩ (fun x => by kernel_rfl)
noncomputable def E_sHash : Entry := ⟨aV (rOne (rX .shr 1 iR)), qV rI, fun (x : (List Int)) => S_sHash x⟩
theorem ok_sHash : Ok 119 E_sHash := mk Tryz.func119 (by kernel_rfl) [((127, 0), E_sMod)] [(3, iR)] { lv := [(3, ⟨[0, 3, 4], [], [], pV (rCo (rX .shr 1 iR) (rCo rI (rOne rI)))⟩)] } ⟨ok_sMod, trivial⟩ (fun x => by kernel_rfl)
noncomputable def E_sSealOf : Entry := ⟨aV (rCo rI (rCo rI (rOne (rX .shr 1 iR)))), qV rI, fun (x : (Int × Int × (List Int))) => S_sSealOf x.1 x.2.1 x.2.2⟩
theorem ok_sSealOf : Ok 101 E_sSealOf := mk Tryz.func101 (by kernel_rfl) [((119, 0), E_sHash)] [] {} ⟨ok_sHash, trivial⟩ (fun x => by kernel_rfl)
noncomputable def E_sIsRecord : Entry := ⟨aV (rOne (rX .shr 3 (noteR .shr))), qV rB, fun (x : (List Note)) => S_sIsRecord x⟩
theorem ok_sIsRecord : Ok 64 E_sIsRecord := mk Tryz.func64 (by kernel_rfl) [((101, 0), E_sSealOf), ((66, 0), E_sl1In)] [(3, iR), (94, (noteR .shr))] { lv := [(3, ⟨[0, 3, 4], [], [], pV (rCo (rX .shr 3 (noteR .shr)) (rCo rI (rOne rI)))⟩), (9, ⟨[0, 3, 4, 5], [], [], pV (rCo (rX .shr 3 (noteR .shr)) (rCo rI (rCo rI (rOne rI))))⟩)] } ⟨ok_sSealOf, ok_sl1In, trivial⟩ (fun x => by kernel_rfl)
noncomputable def E_sIsSafeLights : Entry := ⟨aV (rCo (rX .shr 4 pathR) (rOne (rX .shr 1 iR))), qV rB, fun (x : ((List Path) × (List Int))) => S_sIsSafeLights x.1 x.2⟩
theorem ok_sIsSafeLights : Ok 67 E_sIsSafeLights := mk Tryz.func67 (by kernel_rfl) [((100, 0), E_sArePaths), ((66, 0), E_sl1In), ((45, 0), E_sConflict)] [(3, iR), (82, pathR)] { lv := [(4, ⟨[0, 1, 5], [], [], pV (rCo (rX .shr 4 pathR) (rCo (rX .shr 1 iR) (rOne rI)))⟩), (9, ⟨[0, 1, 5, 6], [], [], pV (rCo (rX .shr 4 pathR) (rCo (rX .shr 1 iR) (rCo rI (rOne rI))))⟩)] } ⟨ok_sArePaths, ok_sl1In, ok_sConflict, trivial⟩ (fun x => by kernel_rfl)
noncomputable def E_sFirstUnsafe : Entry := ⟨aV (rCo (rX .shr 4 pathR) (rOne (rX .shr 3 (noteR .shr)))), qV rI, fun (x : ((List Path) × (List Note))) => S_sFirstUnsafe x.1 x.2⟩
theorem ok_sFirstUnsafe : Ok 65 E_sFirstUnsafe := mk Tryz.func65 (by kernel_rfl) [((64, 0), E_sIsRecord), ((67, 0), E_sIsSafeLights)] [(94, (noteR .shr))] { lv := [(2, ⟨[0, 1, 5], [], [], pV (rCo (rX .shr 4 pathR) (rCo (rX .shr 3 (noteR .shr)) (rOne rI)))⟩)] } ⟨ok_sIsRecord, ok_sIsSafeLights, trivial⟩ (fun x => by kernel_rfl)
noncomputable def E_sIsTown : Entry := ⟨aV (rOne (rAg (townR .shr .shr .shr .shr .shr .shr .shr))), qV rB, fun (x : Town) => S_sIsTown x⟩
theorem ok_sIsTown : Ok 32 E_sIsTown := mk Tryz.func32 (by kernel_rfl) [((60, 0), E_sIsControl), ((61, 0), E_sAreWants), ((62, 0), E_sIsPrio), ((63, 0), E_sAreLamps), ((64, 0), E_sIsRecord), ((65, 0), E_sFirstUnsafe), ((66, 0), E_sl1In)] [(94, (noteR .shr))] {} ⟨ok_sIsControl, ok_sAreWants, ok_sIsPrio, ok_sAreLamps, ok_sIsRecord, ok_sFirstUnsafe, ok_sl1In, trivial⟩ (fun x => by kernel_rfl)
noncomputable def E_sl28At : Entry := ⟨aV (rCo (rX .shr 3 (noteR .shr)) (rOne rI)), qV rI, fun (x : ((List Note) × Int)) => S_sl28At x.1 x.2⟩
theorem ok_sl28At : Ok 84 E_sl28At := mk Tryz.func84 (by kernel_rfl) [((64, 0), E_sIsRecord)] [(94, (noteR .shr))] { lv := [(3, ⟨[0, 1, 5, 6], [], [], pV (rCo (rX .shr 3 (noteR .shr)) (rCo rI (rCo rI (rOne rI))))⟩)] } ⟨ok_sIsRecord, trivial⟩ (fun x => by kernel_rfl)
noncomputable def E_sShownAt : Entry := ⟨aV (rCo (rX .shr 3 (noteR .shr)) (rOne rI)), qV (rTu (rCo (rX .own 1 iR) (rOne rB))), fun (x : ((List Note) × Int)) => S_sShownAt x.1 x.2⟩
theorem ok_sShownAt : Ok 43 E_sShownAt := mk Tryz.func43 (by kernel_rfl) [((84, 0), E_sl28At)] [(94, (noteR .shr))] { tk := [(3, 1), (4, 7)] } ⟨ok_sl28At, trivial⟩ (fun x => by kernel_rfl)
noncomputable def E_sLightShown : Entry := ⟨aV (rCo (rX .shr 3 (noteR .shr)) (rCo rI (rOne rI))), qV rI, fun (x : ((List Note) × Int × Int)) => S_sLightShown x.1 x.2.1 x.2.2⟩
theorem ok_sLightShown : Ok 85 E_sLightShown := mk Tryz.func85 (by kernel_rfl) [((43, 0), E_sShownAt), ((66, 0), E_sl1In)] [(3, iR)] { tk := [(1, 3), (1, 4), (1, 6), (4, 0)] } ⟨ok_sShownAt, ok_sl1In, trivial⟩ (fun x => by kernel_rfl)
noncomputable def E_sGreenSince : Entry := ⟨aV (rCo (rX .shr 3 (noteR .shr)) (rCo rI (rOne rI))), qV rI, fun (x : ((List Note) × Int × Int)) => S_sGreenSince x.1 x.2.1 x.2.2⟩
theorem ok_sGreenSince : Ok 44 E_sGreenSince := mk Tryz.func44 (by kernel_rfl) [((85, 0), E_sLightShown), ((84, 0), E_sl28At)] [(3, iR), (94, (noteR .shr))] { lv := [(4, ⟨[0, 1, 2, 7], [], [], pV (rCo (rX .shr 3 (noteR .shr)) (rCo rI (rCo rI (rOne rI))))⟩)] } ⟨ok_sLightShown, ok_sl28At, trivial⟩ (fun x => by kernel_rfl)
noncomputable def E_sReportOf : Entry := ⟨aV (rCo (rAg (townR .shr .shr .shr .shr .shr .shr .shr)) (rCo rI (rOne rI))), qV (rTu (rCo (rAg reportR) (rOne rB))), fun (x : (Town × Int × Int)) => S_sReportOf x.1 x.2.1 x.2.2⟩
theorem ok_sReportOf : Ok 18 E_sReportOf := mk Tryz.func18 (by kernel_rfl) [((42, 0), E_sl38Index), ((32, 0), E_sIsTown), ((43, 0), E_sShownAt), ((44, 0), E_sGreenSince), ((45, 0), E_sConflict)] [(3, iR), (82, pathR)] { tk := [(4, 4), (4, 5), (4, 7)], lv := [(9, ⟨[8, 9, 12], [(3, 3, false), (6, 6, false), (11, 11, false)], [(3, 13, false, false), (6, 5, false, false), (11, 5, false, false)], pVO (rCo rI (rCo (rX .own 1 iR) (rOne rI))) (oRow (townR .shr .shr .shr .shr .shr .shr .shr) (oRow reportR (oRow1 reportR)))⟩)] } ⟨ok_sl38Index, ok_sIsTown, ok_sShownAt, ok_sGreenSince, ok_sConflict, trivial⟩ (fun x => by kernel_rfl)
noncomputable def E_sIsReport : Entry := ⟨aV (rCo (rAg (townR .shr .shr .shr .shr .shr .shr .shr)) (rOne (rAg reportR))), qV rB, fun (x : (Town × Report)) => S_sIsReport x.1 x.2⟩
theorem ok_sIsReport : Ok 6 E_sIsReport := mk Tryz.func6 (by kernel_rfl) [((18, 0), E_sReportOf)] [] {} ⟨ok_sReportOf, trivial⟩ (fun x => by kernel_rfl)
noncomputable def E_iFindPath_1 : Entry := ⟨aV (rCo (rAg pathR) (rOne (rRp iR))), qV rB, fun (x : (Path × Int)) => S_iFindPath_1 x.1 x.2⟩
theorem ok_iFindPath_1 : Ok 91 E_iFindPath_1 := mk Tryz.func91 (by kernel_rfl) [] [] {} trivial (fun x => by kernel_rfl)
noncomputable def E_slices_IndexFunc_loop_example_g03006_impl_Path_loop_example_g03006_impl_Path : Entry := ⟨aV (rCo (rX .shr 4 pathR) (rOne (rFn 91 (rOne (rRp iR))))), qV rI, fun (x : ((List Path) × Int)) => S_slices_IndexFunc_loop_example_g03006_impl_Path_loop_example_g03006_impl_Path x.1 x.2⟩
theorem ok_slices_IndexFunc_loop_example_g03006_impl_Path_loop_example_g03006_impl_Path : Ok 90 E_slices_IndexFunc_loop_example_g03006_impl_Path_loop_example_g03006_impl_Path := mk Tryz.func90 (by kernel_rfl) [((91, 0), E_iFindPath_1)] [(82, pathR)] { lv := [(2, ⟨[0, 1, 7, 8], [], [], pV (rCo (rX .shr 4 pathR) (rCo (rFn 91 (rOne (rRp iR))) (rCo rI (rOne rI))))⟩)] } ⟨ok_iFindPath_1, trivial⟩ (fun x => by kernel_rfl)
noncomputable def E_iFindPath : Entry := ⟨aV (rCo (rX .shr 4 pathR) (rOne rI)), qV rI, fun (x : ((List Path) × Int)) => S_iFindPath x.1 x.2⟩
theorem ok_iFindPath : Ok 51 E_iFindPath := mk Tryz.func51 (by kernel_rfl) [((90, 0), E_slices_IndexFunc_loop_example_g03006_impl_Path_loop_example_g03006_impl_Path)] [] {} ⟨ok_slices_IndexFunc_loop_example_g03006_impl_Path_loop_example_g03006_impl_Path, trivial⟩ (fun x => by kernel_rfl)
noncomputable def E_iInRange : Entry := ⟨aV (rCo rI (rCo rI (rOne rI))), qV rB, fun (x : (Int × Int × Int)) => S_iInRange x.1 x.2.1 x.2.2⟩
theorem ok_iInRange : Ok 77 E_iInRange := mk Tryz.func77 (by kernel_rfl) [] [] {} trivial (fun x => by kernel_rfl)
noncomputable def E_iIsPath : Entry := ⟨aV (rOne (rAg pathR)), qV rB, fun (x : Path) => S_iIsPath x⟩
theorem ok_iIsPath : Ok 94 E_iIsPath := mk Tryz.func94 (by kernel_rfl) [((77, 0), E_iInRange)] [] {} ⟨ok_iInRange, trivial⟩ (fun x => by kernel_rfl)
noncomputable def E_iArePaths : Entry := ⟨aV (rOne (rX .shr 4 pathR)), qV rB, fun (x : (List Path)) => S_iArePaths x⟩
theorem ok_iArePaths : Ok 108 E_iArePaths := mk Tryz.func108 (by kernel_rfl) [((94, 0), E_iIsPath)] [(82, pathR)] { lv := [(4, ⟨[0, 8, 9, 10], [], [], pV (rCo (rX .shr 4 pathR) (rCo (rX .shr 4 pathR) (rCo rI (rOne rI))))⟩)] } ⟨ok_iIsPath, trivial⟩ (fun x => by kernel_rfl)
noncomputable def E_iInPlace : Entry := ⟨aV (rOne rI), qV rI, fun (x : Int) => S_iInPlace x⟩
theorem ok_iInPlace : Ok 96 E_iInPlace := mk Tryz.func96 (by kernel_rfl) [((77, 0), E_iInRange)] [] {} ⟨ok_iInRange, trivial⟩ (fun x => by kernel_rfl)
noncomputable def E_iOutPlace : Entry := ⟨aV (rOne rI), qV rI, fun (x : Int) => S_iOutPlace x⟩
theorem ok_iOutPlace : Ok 97 E_iOutPlace := mk Tryz.func97 (by kernel_rfl) [((77, 0), E_iInRange)] [] {} ⟨ok_iInRange, trivial⟩ (fun x => by kernel_rfl)
noncomputable def E_iInterleave : Entry := ⟨aV (rCo rI (rCo rI (rCo rI (rOne rI)))), qV rB, fun (x : (Int × Int × Int × Int)) => S_iInterleave x.1 x.2.1 x.2.2.1 x.2.2.2⟩
theorem ok_iInterleave : Ok 95 E_iInterleave := mk Tryz.func95 (by kernel_rfl) [((77, 0), E_iInRange)] [(3, iR)] { lv := [(2, ⟨[0, 1, 2, 3, 16, 17, 18], [], [], pV (rCo rI (rCo rI (rCo rI (rCo rI (rCo (rX .own 1 iR) (rCo rI (rOne rI)))))))⟩)] } ⟨ok_iInRange, trivial⟩ (fun x => by kernel_rfl)
noncomputable def E_iConflict : Entry := ⟨aV (rCo (rAg pathR) (rOne (rAg pathR))), qV rB, fun (x : (Path × Path)) => S_iConflict x.1 x.2⟩
theorem ok_iConflict : Ok 54 E_iConflict := mk Tryz.func54 (by kernel_rfl) [((94, 0), E_iIsPath), ((96, 0), E_iInPlace), ((97, 0), E_iOutPlace), ((95, 0), E_iInterleave)] [] {} ⟨ok_iIsPath, ok_iInPlace, ok_iOutPlace, ok_iInterleave, trivial⟩ (fun x => by kernel_rfl)
noncomputable def E_iIsTogether : Entry := ⟨aV (rCo (rX .shr 4 pathR) (rOne (rX .shr 1 iR))), qV rB, fun (x : ((List Path) × (List Int))) => S_iIsTogether x.1 x.2⟩
theorem ok_iIsTogether : Ok 106 E_iIsTogether := mk Tryz.func106 (by kernel_rfl) [((108, 0), E_iArePaths), ((51, 0), E_iFindPath), ((54, 0), E_iConflict)] [(3, iR), (82, pathR)] { lv := [(4, ⟨[0, 1, 13, 14, 15], [], [], pV (rCo (rX .shr 4 pathR) (rCo (rX .shr 1 iR) (rCo (rX .shr 1 iR) (rCo rI (rOne rI)))))⟩), (10, ⟨[0, 1, 7, 13, 14, 15, 40, 41, 42], [], [], pV (rCo (rX .shr 4 pathR) (rCo (rX .shr 1 iR) (rCo rI (rCo (rX .shr 1 iR) (rCo rI (rCo rI (rCo (rX .shr 1 iR) (rCo rI (rOne rI)))))))))⟩)] } ⟨ok_iArePaths, ok_iFindPath, ok_iConflict, trivial⟩ (fun x => by kernel_rfl)
noncomputable def E_slices_Index_int_int : Entry := ⟨aV (rCo (rX .shr 1 iR) (rOne rI)), qV rI, fun (x : ((List Int) × Int)) => S_slices_Index_int_int x.1 x.2⟩
theorem ok_slices_Index_int_int : Ok 132 E_slices_Index_int_int := mk Tryz.func132 (by kernel_rfl) [] [(3, iR)] { lv := [(2, ⟨[0, 1, 7, 8], [], [], pV (rCo (rX .shr 1 iR) (rCo rI (rCo rI (rOne rI))))⟩)] } trivial (fun x => by kernel_rfl)
noncomputable def E_slices_Contains_int_int : Entry := ⟨aV (rCo (rX .shr 1 iR) (rOne rI)), qV rB, fun (x : ((List Int) × Int)) => S_slices_Contains_int_int x.1 x.2⟩
theorem ok_slices_Contains_int_int : Ok 126 E_slices_Contains_int_int := mk Tryz.func126 (by kernel_rfl) [((132, 0), E_slices_Index_int_int)] [] {} ⟨ok_slices_Index_int_int, trivial⟩ (fun x => by kernel_rfl)
noncomputable def E_isieve : Entry := ⟨aV (rCo (rX .shr 1 iR) (rCo (rX .shr 1 iR) (rOne rB))), qV (rX .own 1 iR), fun (x : ((List Int) × (List Int) × Bool)) => S_isieve x.1 x.2.1 x.2.2⟩
theorem ok_isieve : Ok 128 E_isieve := mk Tryz.func128 (by kernel_rfl) [((126, 0), E_slices_Contains_int_int)] [(3, iR)] { tk := [(1, 1), (6, 0), (6, 3), (6, 4), (8, 0), (8, 1)], lv := [(3, ⟨[1, 2, 7, 11, 12, 13], [], [], pV (rCo (rX .shr 1 iR) (rCo rB (rCo (rX .own 1 iR) (rCo (rX .shr 1 iR) (rCo rI (rOne rI))))))⟩)] } ⟨ok_slices_Contains_int_int, trivial⟩ (fun x => by kernel_rfl)
noncomputable def E_iCloses : Entry := ⟨aV (rCo (rX .shr 1 iR) (rOne (rX .shr 1 iR))), qV (rX .own 1 iR), fun (x : ((List Int) × (List Int))) => S_iCloses x.1 x.2⟩
theorem ok_iCloses : Ok 122 E_iCloses := mk Tryz.func122 (by kernel_rfl) [((128, 0), E_isieve)] [] { tk := [(1, 3)] } ⟨ok_isieve, trivial⟩ (fun x => by kernel_rfl)
noncomputable def E_iClearOf : Entry := ⟨aV (rOne (rAg pathR)), qV rI, fun (x : Path) => S_iClearOf x⟩
theorem ok_iClearOf : Ok 123 E_iClearOf := mk Tryz.func123 (by kernel_rfl) [((94, 0), E_iIsPath)] [] {} ⟨ok_iIsPath, trivial⟩ (fun x => by kernel_rfl)
noncomputable def E_iClearBetween : Entry := ⟨aV (rCo (rX .shr 4 pathR) (rCo (rX .shr 1 iR) (rOne (rX .shr 1 iR)))), qV rI, fun (x : ((List Path) × (List Int) × (List Int))) => S_iClearBetween x.1 x.2.1 x.2.2⟩
theorem ok_iClearBetween : Ok 107 E_iClearBetween := mk Tryz.func107 (by kernel_rfl) [((106, 0), E_iIsTogether), ((122, 0), E_iCloses), ((51, 0), E_iFindPath), ((54, 0), E_iConflict), ((123, 0), E_iClearOf)] [(3, iR), (82, pathR)] { lv := [(5, ⟨[0, 1, 2, 7, 26, 27, 28], [], [], pV (rCo (rX .shr 4 pathR) (rCo (rX .shr 1 iR) (rCo (rX .shr 1 iR) (rCo rI (rCo (rX .own 1 iR) (rCo rI (rOne rI)))))))⟩), (8, ⟨[0, 1, 2, 7, 9, 26, 27, 28, 34, 35, 36], [], [], pV (rCo (rX .shr 4 pathR) (rCo (rX .shr 1 iR) (rCo (rX .shr 1 iR) (rCo rI (rCo rI (rCo (rX .own 1 iR) (rCo rI (rCo rI (rCo (rX .own 1 iR) (rCo rI (rOne rI)))))))))))⟩)] } ⟨ok_iIsTogether, ok_iCloses, ok_iFindPath, ok_iConflict, ok_iClearOf, trivial⟩ (fun x => by kernel_rfl)
noncomputable def E_iIsControl : Entry := ⟨aV (rCo (rX .shr 4 pathR) (rOne (rAg (controlR .shr .shr)))), qV rB, fun (x : ((List Path) × Control)) => S_iIsControl x.1 x.2⟩
theorem ok_iIsControl : Ok 71 E_iIsControl := mk Tryz.func71 (by kernel_rfl) [((106, 0), E_iIsTogether), ((77, 0), E_iInRange), ((107, 0), E_iClearBetween)] [] {} ⟨ok_iIsTogether, ok_iInRange, ok_iClearBetween, trivial⟩ (fun x => by kernel_rfl)
noncomputable def E_iAreWants : Entry := ⟨aV (rCo (rX .shr 4 pathR) (rOne (rX .shr 2 wantR))), qV rB, fun (x : ((List Path) × (List Want))) => S_iAreWants x.1 x.2⟩
theorem ok_iAreWants : Ok 72 E_iAreWants := mk Tryz.func72 (by kernel_rfl) [((108, 0), E_iArePaths), ((51, 0), E_iFindPath), ((77, 0), E_iInRange)] [(87, wantR)] { lv := [(4, ⟨[0, 1, 10, 11, 12], [], [], pV (rCo (rX .shr 4 pathR) (rCo (rX .shr 2 wantR) (rCo (rX .shr 2 wantR) (rCo rI (rOne rI)))))⟩)] } ⟨ok_iArePaths, ok_iFindPath, ok_iInRange, trivial⟩ (fun x => by kernel_rfl)
noncomputable def E_iisBus : Entry := ⟨aV (rCo (rX .shr 4 pathR) (rOne rI)), qV rB, fun (x : ((List Path) × Int)) => S_iisBus x.1 x.2⟩
theorem ok_iisBus : Ok 109 E_iisBus := mk Tryz.func109 (by kernel_rfl) [((51, 0), E_iFindPath)] [(82, pathR)] {} ⟨ok_iFindPath, trivial⟩ (fun x => by kernel_rfl)
noncomputable def E_iIsPrio : Entry := ⟨aV (rCo (rX .shr 4 pathR) (rOne (rAg prioR))), qV rB, fun (x : ((List Path) × Prio)) => S_iIsPrio x.1 x.2⟩
theorem ok_iIsPrio : Ok 73 E_iIsPrio := mk Tryz.func73 (by kernel_rfl) [((108, 0), E_iArePaths), ((109, 0), E_iisBus), ((77, 0), E_iInRange)] [] {} ⟨ok_iArePaths, ok_iisBus, ok_iInRange, trivial⟩ (fun x => by kernel_rfl)
noncomputable def E_iAreLamps : Entry := ⟨aV (rCo (rX .shr 4 pathR) (rOne (rX .shr 3 lampR))), qV rB, fun (x : ((List Path) × (List Lamp))) => S_iAreLamps x.1 x.2⟩
theorem ok_iAreLamps : Ok 74 E_iAreLamps := mk Tryz.func74 (by kernel_rfl) [((108, 0), E_iArePaths), ((51, 0), E_iFindPath)] [(91, lampR)] { lv := [(4, ⟨[0, 1, 12, 13, 14], [], [], pV (rCo (rX .shr 4 pathR) (rCo (rX .shr 3 lampR) (rCo (rX .shr 3 lampR) (rCo rI (rOne rI)))))⟩), (9, ⟨[0, 1, 12, 13, 14, 36, 37, 38], [(6, 6, false)], [(6, 3, false, false)], pVO (rCo (rX .shr 4 pathR) (rCo (rX .shr 3 lampR) (rCo (rX .shr 3 lampR) (rCo rI (rCo rI (rCo (rX .shr 3 lampR) (rCo rI (rOne rI)))))))) (oRow1 lampR)⟩)] } ⟨ok_iArePaths, ok_iFindPath, trivial⟩ (fun x => by kernel_rfl)
noncomputable def E_iMod : Entry := ⟨aV (rCo rI (rOne rI)), qV rI, fun (x : (Int × Int)) => S_iMod x.1 x.2⟩
theorem ok_iMod : Ok 133 E_iMod := mk Tryz.func133 (by kernel_rfl) [((77, 0), E_iInRange)] [] {} ⟨ok_iInRange, trivial⟩ (fun x => by kernel_rfl)
noncomputable def E_ifold : Entry := ⟨aV (rCo rI (rOne rI)), qV rI, fun (x : (Int × Int)) => S_ifold x.1 x.2⟩
theorem ok_ifold : Ok 129 E_ifold := mk Tryz.func129 (by kernel_rfl) [((133, 0), E_iMod)] [] {} ⟨ok_iMod, trivial⟩ (fun x => by kernel_rfl)
noncomputable def E_iHash : Entry := ⟨aV (rOne (rX .shr 1 iR)), qV rI, fun (x : (List Int)) => S_iHash x⟩
theorem ok_iHash : Ok 124 E_iHash := mk Tryz.func124 (by kernel_rfl) [((129, 0), E_ifold)] [(3, iR)] { lv := [(3, ⟨[3, 6, 7, 8], [], [], pV (rCo rI (rCo (rX .shr 1 iR) (rCo rI (rOne rI))))⟩)] } ⟨ok_ifold, trivial⟩ (fun x => by kernel_rfl)
noncomputable def E_iSealOf : Entry := ⟨aV (rCo rI (rCo rI (rOne (rX .shr 1 iR)))), qV rI, fun (x : (Int × Int × (List Int))) => S_iSealOf x.1 x.2.1 x.2.2⟩
theorem ok_iSealOf : Ok 110 E_iSealOf := mk Tryz.func110 (by kernel_rfl) [((124, 0), E_iHash)] [] {} ⟨ok_iHash, trivial⟩ (fun x => by kernel_rfl)
noncomputable def E_iIsRecord : Entry := ⟨aV (rOne (rX .shr 3 (noteR .shr))), qV rB, fun (x : (List Note)) => S_iIsRecord x⟩
theorem ok_iIsRecord : Ok 75 E_iIsRecord := mk Tryz.func75 (by kernel_rfl) [((77, 0), E_iInRange), ((110, 0), E_iSealOf)] [(3, iR), (94, (noteR .shr))] { lv := [(5, ⟨[0, 3, 11, 12, 13], [], [], pV (rCo (rX .shr 3 (noteR .shr)) (rCo rI (rCo (rX .shr 3 (noteR .shr)) (rCo rI (rOne rI)))))⟩), (10, ⟨[0, 11, 12, 13, 66, 67, 68], [(5, 5, false)], [(5, 3, false, false)], pVO (rCo (rX .shr 3 (noteR .shr)) (rCo (rX .shr 3 (noteR .shr)) (rCo rI (rCo rI (rCo (rX .shr 1 iR) (rCo rI (rOne rI))))))) (oRow1 (noteR .shr))⟩)] } ⟨ok_iInRange, ok_iSealOf, trivial⟩ (fun x => by kernel_rfl)
noncomputable def E_iIsSafeLights : Entry := ⟨aV (rCo (rX .shr 4 pathR) (rOne (rX .shr 1 iR))), qV rB, fun (x : ((List Path) × (List Int))) => S_iIsSafeLights x.1 x.2⟩
theorem ok_iIsSafeLights : Ok 78 E_iIsSafeLights := mk Tryz.func78 (by kernel_rfl) [((108, 0), E_iArePaths), ((77, 0), E_iInRange), ((54, 0), E_iConflict)] [(3, iR), (82, pathR)] { lv := [(4, ⟨[0, 1, 19, 20, 21], [], [], pV (rCo (rX .shr 4 pathR) (rCo (rX .shr 1 iR) (rCo (rX .shr 4 pathR) (rCo rI (rOne rI)))))⟩), (9, ⟨[0, 1, 5, 19, 20, 21, 34, 35, 36], [(6, 6, false)], [(6, 4, false, false)], pVO (rCo (rX .shr 4 pathR) (rCo (rX .shr 1 iR) (rCo rI (rCo (rX .shr 4 pathR) (rCo rI (rCo rI (rCo (rX .shr 4 pathR) (rCo rI (rOne rI))))))))) (oRow1 pathR)⟩)] } ⟨ok_iArePaths, ok_iInRange, ok_iConflict, trivial⟩ (fun x => by kernel_rfl)
noncomputable def E_iFirstUnsafe : Entry := ⟨aV (rCo (rX .shr 4 pathR) (rOne (rX .shr 3 (noteR .shr)))), qV rI, fun (x : ((List Path) × (List Note))) => S_iFirstUnsafe x.1 x.2⟩
theorem ok_iFirstUnsafe : Ok 76 E_iFirstUnsafe := mk Tryz.func76 (by kernel_rfl) [((75, 0), E_iIsRecord), ((78, 0), E_iIsSafeLights)] [(94, (noteR .shr))] { lv := [(4, ⟨[0, 10, 11, 12], [], [], pV (rCo (rX .shr 4 pathR) (rCo (rX .shr 3 (noteR .shr)) (rCo rI (rOne rI))))⟩)] } ⟨ok_iIsRecord, ok_iIsSafeLights, trivial⟩ (fun x => by kernel_rfl)
noncomputable def E_iIsTown : Entry := ⟨aV (rOne (rAg (townR .shr .shr .shr .shr .shr .shr .shr))), qV rB, fun (x : Town) => S_iIsTown x⟩
theorem ok_iIsTown : Ok 36 E_iIsTown := mk Tryz.func36 (by kernel_rfl) [((71, 0), E_iIsControl), ((72, 0), E_iAreWants), ((73, 0), E_iIsPrio), ((74, 0), E_iAreLamps), ((75, 0), E_iIsRecord), ((76, 0), E_iFirstUnsafe), ((77, 0), E_iInRange)] [(94, (noteR .shr))] {} ⟨ok_iIsControl, ok_iAreWants, ok_iIsPrio, ok_iAreLamps, ok_iIsRecord, ok_iFirstUnsafe, ok_iInRange, trivial⟩ (fun x => by kernel_rfl)
noncomputable def E_ientryAt : Entry := ⟨aV (rCo (rX .shr 3 (noteR .shr)) (rOne rI)), qV rI, fun (x : ((List Note) × Int)) => S_ientryAt x.1 x.2⟩
theorem ok_ientryAt : Ok 92 E_ientryAt := mk Tryz.func92 (by kernel_rfl) [((75, 0), E_iIsRecord)] [(94, (noteR .shr))] { lv := [(5, ⟨[1, 5, 12, 13, 14], [], [], pV (rCo rI (rCo rI (rCo (rX .shr 3 (noteR .shr)) (rCo rI (rOne rI)))))⟩)] } ⟨ok_iIsRecord, trivial⟩ (fun x => by kernel_rfl)
noncomputable def E_ilightOf : Entry := ⟨aV (rCo (rAg (noteR .shr)) (rOne rI)), qV rI, fun (x : (Note × Int)) => S_ilightOf x.1 x.2⟩
theorem ok_ilightOf : Ok 93 E_ilightOf := mk Tryz.func93 (by kernel_rfl) [] [(3, iR)] {} trivial (fun x => by kernel_rfl)
noncomputable def E_iLightShown : Entry := ⟨aV (rCo (rX .shr 3 (noteR .shr)) (rCo rI (rOne rI))), qV rI, fun (x : ((List Note) × Int × Int)) => S_iLightShown x.1 x.2.1 x.2.2⟩
theorem ok_iLightShown : Ok 52 E_iLightShown := mk Tryz.func52 (by kernel_rfl) [((92, 0), E_ientryAt), ((93, 0), E_ilightOf)] [(94, (noteR .shr))] {} ⟨ok_ientryAt, ok_ilightOf, trivial⟩ (fun x => by kernel_rfl)
noncomputable def E_iGreenSince : Entry := ⟨aV (rCo (rX .shr 3 (noteR .shr)) (rCo rI (rOne rI))), qV rI, fun (x : ((List Note) × Int × Int)) => S_iGreenSince x.1 x.2.1 x.2.2⟩
theorem ok_iGreenSince : Ok 53 E_iGreenSince := mk Tryz.func53 (by kernel_rfl) [((92, 0), E_ientryAt), ((93, 0), E_ilightOf)] [(94, (noteR .shr))] { lv := [(4, ⟨[0, 1, 2, 7], [], [], pV (rCo (rX .shr 3 (noteR .shr)) (rCo rI (rCo rI (rOne rI))))⟩)] } ⟨ok_ientryAt, ok_ilightOf, trivial⟩ (fun x => by kernel_rfl)
noncomputable def E_iReportOf : Entry := ⟨aV (rCo (rAg (townR .shr .shr .shr .shr .shr .shr .shr)) (rCo rI (rOne rI))), qV (rTu (rCo (rAg reportR) (rOne rB))), fun (x : (Town × Int × Int)) => S_iReportOf x.1 x.2.1 x.2.2⟩
theorem ok_iReportOf : Ok 25 E_iReportOf := mk Tryz.func25 (by kernel_rfl) [((51, 0), E_iFindPath), ((36, 0), E_iIsTown), ((52, 0), E_iLightShown), ((53, 0), E_iGreenSince), ((54, 0), E_iConflict)] [(82, pathR)] { lv := [(8, ⟨[2, 8, 48, 49, 50], [(3, 3, false), (6, 6, false), (9, 9, false)], [(3, 13, false, false), (6, 5, false, false), (9, 5, false, false)], pVO (rCo rI (rCo rI (rCo (rX .shr 4 pathR) (rCo rI (rOne rI))))) (oRow (townR .shr .shr .shr .shr .shr .shr .shr) (oRow reportR (oRow1 reportR)))⟩)] } ⟨ok_iFindPath, ok_iIsTown, ok_iLightShown, ok_iGreenSince, ok_iConflict, trivial⟩ (fun x => by kernel_rfl)
noncomputable def E_iIsReport : Entry := ⟨aV (rCo (rAg (townR .shr .shr .shr .shr .shr .shr .shr)) (rOne (rAg reportR))), qV rB, fun (x : (Town × Report)) => S_iIsReport x.1 x.2⟩
theorem ok_iIsReport : Ok 9 E_iIsReport := mk Tryz.func9 (by kernel_rfl) [((25, 0), E_iReportOf)] [] {} ⟨ok_iReportOf, trivial⟩ (fun x => by kernel_rfl)
noncomputable def E_leqPath : Entry := ⟨aV (rCo (rAg pathR) (rOne (rAg pathR))), qV rB, fun (x : (Path × Path)) => S_leqPath x.1 x.2⟩
theorem ok_leqPath : Ok 55 E_leqPath := mk Tryz.func55 (by kernel_rfl) [] [] {} trivial (fun x => by kernel_rfl)
noncomputable def E_leqPathS : Entry := ⟨aV (rCo (rX .shr 4 pathR) (rOne (rX .shr 4 pathR))), qV rB, fun (x : ((List Path) × (List Path))) => S_leqPathS x.1 x.2⟩
theorem ok_leqPathS : Ok 26 E_leqPathS := mk Tryz.func26 (by kernel_rfl) [((55, 0), E_leqPath)] [(82, pathR)] { lv := [(4, ⟨[0, 1, 5], [], [], pV (rCo (rX .shr 4 pathR) (rCo (rX .shr 4 pathR) (rOne rI)))⟩)] } ⟨ok_leqPath, trivial⟩ (fun x => by kernel_rfl)
noncomputable def E_leqIntS : Entry := ⟨aV (rCo (rX .shr 1 iR) (rOne (rX .shr 1 iR))), qV rB, fun (x : ((List Int) × (List Int))) => S_leqIntS x.1 x.2⟩
theorem ok_leqIntS : Ok 56 E_leqIntS := mk Tryz.func56 (by kernel_rfl) [] [(3, iR)] { lv := [(4, ⟨[0, 1, 5], [], [], pV (rCo (rX .shr 1 iR) (rCo (rX .shr 1 iR) (rOne rI)))⟩)] } trivial (fun x => by kernel_rfl)
noncomputable def E_leqControl : Entry := ⟨aV (rCo (rAg (controlR .shr .shr)) (rOne (rAg (controlR .shr .shr)))), qV rB, fun (x : (Control × Control)) => S_leqControl x.1 x.2⟩
theorem ok_leqControl : Ok 27 E_leqControl := mk Tryz.func27 (by kernel_rfl) [((56, 0), E_leqIntS)] [] {} ⟨ok_leqIntS, trivial⟩ (fun x => by kernel_rfl)
noncomputable def E_leqWant : Entry := ⟨aV (rCo (rAg wantR) (rOne (rAg wantR))), qV rB, fun (x : (Want × Want)) => S_leqWant x.1 x.2⟩
theorem ok_leqWant : Ok 57 E_leqWant := mk Tryz.func57 (by kernel_rfl) [] [] {} trivial (fun x => by kernel_rfl)
noncomputable def E_leqWantS : Entry := ⟨aV (rCo (rX .shr 2 wantR) (rOne (rX .shr 2 wantR))), qV rB, fun (x : ((List Want) × (List Want))) => S_leqWantS x.1 x.2⟩
theorem ok_leqWantS : Ok 28 E_leqWantS := mk Tryz.func28 (by kernel_rfl) [((57, 0), E_leqWant)] [(87, wantR)] { lv := [(4, ⟨[0, 1, 5], [], [], pV (rCo (rX .shr 2 wantR) (rCo (rX .shr 2 wantR) (rOne rI)))⟩)] } ⟨ok_leqWant, trivial⟩ (fun x => by kernel_rfl)
noncomputable def E_leqPrio : Entry := ⟨aV (rCo (rAg prioR) (rOne (rAg prioR))), qV rB, fun (x : (Prio × Prio)) => S_leqPrio x.1 x.2⟩
theorem ok_leqPrio : Ok 29 E_leqPrio := mk Tryz.func29 (by kernel_rfl) [] [] {} trivial (fun x => by kernel_rfl)
noncomputable def E_leqLamp : Entry := ⟨aV (rCo (rAg lampR) (rOne (rAg lampR))), qV rB, fun (x : (Lamp × Lamp)) => S_leqLamp x.1 x.2⟩
theorem ok_leqLamp : Ok 58 E_leqLamp := mk Tryz.func58 (by kernel_rfl) [] [] {} trivial (fun x => by kernel_rfl)
noncomputable def E_leqLampS : Entry := ⟨aV (rCo (rX .shr 3 lampR) (rOne (rX .shr 3 lampR))), qV rB, fun (x : ((List Lamp) × (List Lamp))) => S_leqLampS x.1 x.2⟩
theorem ok_leqLampS : Ok 30 E_leqLampS := mk Tryz.func30 (by kernel_rfl) [((58, 0), E_leqLamp)] [(91, lampR)] { lv := [(4, ⟨[0, 1, 5], [], [], pV (rCo (rX .shr 3 lampR) (rCo (rX .shr 3 lampR) (rOne rI)))⟩)] } ⟨ok_leqLamp, trivial⟩ (fun x => by kernel_rfl)
noncomputable def E_leqEntry : Entry := ⟨aV (rCo (rAg (noteR .shr)) (rOne (rAg (noteR .shr)))), qV rB, fun (x : (Note × Note)) => S_leqEntry x.1 x.2⟩
theorem ok_leqEntry : Ok 59 E_leqEntry := mk Tryz.func59 (by kernel_rfl) [((56, 0), E_leqIntS)] [] {} ⟨ok_leqIntS, trivial⟩ (fun x => by kernel_rfl)
noncomputable def E_leqEntryS : Entry := ⟨aV (rCo (rX .shr 3 (noteR .shr)) (rOne (rX .shr 3 (noteR .shr)))), qV rB, fun (x : ((List Note) × (List Note))) => S_leqEntryS x.1 x.2⟩
theorem ok_leqEntryS : Ok 31 E_leqEntryS := mk Tryz.func31 (by kernel_rfl) [((59, 0), E_leqEntry)] [(94, (noteR .shr))] { lv := [(4, ⟨[0, 1, 5], [], [], pV (rCo (rX .shr 3 (noteR .shr)) (rCo (rX .shr 3 (noteR .shr)) (rOne rI)))⟩)] } ⟨ok_leqEntry, trivial⟩ (fun x => by kernel_rfl)
noncomputable def E_leqTown : Entry := ⟨aV (rCo (rAg (townR .shr .shr .shr .shr .shr .shr .shr)) (rOne (rAg (townR .shr .shr .shr .shr .shr .shr .shr)))), qV rB, fun (x : (Town × Town)) => S_leqTown x.1 x.2⟩
theorem ok_leqTown : Ok 10 E_leqTown := mk Tryz.func10 (by kernel_rfl) [((26, 0), E_leqPathS), ((27, 0), E_leqControl), ((28, 0), E_leqWantS), ((29, 0), E_leqPrio), ((30, 0), E_leqLampS), ((31, 0), E_leqEntryS)] [] {} ⟨ok_leqPathS, ok_leqControl, ok_leqWantS, ok_leqPrio, ok_leqLampS, ok_leqEntryS, trivial⟩ (fun x => by kernel_rfl)
noncomputable def E_lFnExactIsReport : Entry := ⟨aV (rCo (rAg (townR .shr .shr .shr .shr .shr .shr .shr)) (rOne (rAg reportR))), qV rB, fun (x : (Town × Report)) => S_lFnExactIsReport x.1 x.2⟩
theorem ok_lFnExactIsReport : Ok 3 E_lFnExactIsReport := mk Tryz.func3 (by kernel_rfl) [((5, 0), E_lszTown), ((7, 0), E_ltoTown), ((8, 0), E_ltoReport), ((6, 0), E_sIsReport), ((9, 0), E_iIsReport), ((10, 0), E_leqTown)] [] { tk := [(6, 3)] } ⟨ok_lszTown, ok_ltoTown, ok_ltoReport, ok_sIsReport, ok_iIsReport, ok_leqTown, trivial⟩ (fun x => by kernel_rfl)
noncomputable def E_sModeFor : Entry := ⟨aV (rCo (rX .shr 4 pathR) (rCo (rX .shr 3 lampR) (rOne rB))), qV rI, fun (x : ((List Path) × (List Lamp) × Bool)) => S_sModeFor x.1 x.2.1 x.2.2⟩
theorem ok_sModeFor : Ok 120 E_sModeFor := mk Tryz.func120 (by kernel_rfl) [((63, 0), E_sAreLamps)] [(91, lampR)] { lv := [(4, ⟨[0, 1, 7], [], [], pV (rCo (rX .shr 4 pathR) (rCo (rX .shr 3 lampR) (rOne rI)))⟩)] } ⟨ok_sAreLamps, trivial⟩ (fun x => by kernel_rfl)
noncomputable def E_sModeOf : Entry := ⟨aV (rOne (rAg (townR .shr .shr .shr .shr .shr .shr .shr))), qV rI, fun (x : Town) => S_sModeOf x⟩
theorem ok_sModeOf : Ok 102 E_sModeOf := mk Tryz.func102 (by kernel_rfl) [((120, 0), E_sModeFor)] [] {} ⟨ok_sModeFor, trivial⟩ (fun x => by kernel_rfl)
noncomputable def E_sLightsOf : Entry := ⟨aV (rCo (rX .shr 4 pathR) (rOne (rAg (controlR .shr .shr)))), qV (rX .own 1 iR), fun (x : ((List Path) × Control)) => S_sLightsOf x.1 x.2⟩
theorem ok_sLightsOf : Ok 103 E_sLightsOf := mk Tryz.func103 (by kernel_rfl) [((60, 0), E_sIsControl), ((121, 0), E_sl6Has)] [(82, pathR)] { tk := [(1, 1), (10, 0), (10, 3), (10, 4), (11, 0), (11, 1)], lv := [(3, ⟨[0, 5, 6], [(3, 3, false)], [(3, 4, false, false)], pVO (rCo (rX .shr 4 pathR) (rCo (rX .own 1 iR) (rOne rI))) (oRow1 (controlR .shr .shr))⟩)] } ⟨ok_sIsControl, ok_sl6Has, trivial⟩ (fun x => by kernel_rfl)
noncomputable def E_sl33All : Entry := ⟨aV (rCo (rAg (townR .shr .shr .shr .shr .shr .shr .shr)) (rOne rI)), qV (rX .own 1 iR), fun (x : (Town × Int)) => S_sl33All x.1 x.2⟩
theorem ok_sl33All : Ok 104 E_sl33All := mk Tryz.func104 (by kernel_rfl) [] [] { tk := [(1, 1), (5, 0), (5, 3), (5, 4), (6, 0), (6, 1)], lv := [(3, ⟨[1, 5, 6], [(2, 2, false)], [(2, 13, false, false)], pVO (rCo rI (rCo (rX .own 1 iR) (rOne rI))) (oRow1 (townR .shr .shr .shr .shr .shr .shr .shr))⟩)] } trivial (fun x => by kernel_rfl)
noncomputable def E_sLightsNow : Entry := ⟨aV (rOne (rAg (townR .shr .shr .shr .shr .shr .shr .shr))), qV (rX .own 1 iR), fun (x : Town) => S_sLightsNow x⟩
theorem ok_sLightsNow : Ok 68 E_sLightsNow := mk Tryz.func68 (by kernel_rfl) [((102, 0), E_sModeOf), ((103, 0), E_sLightsOf), ((104, 0), E_sl33All)] [] { tk := [(2, 5), (3, 2)] } ⟨ok_sModeOf, ok_sLightsOf, ok_sl33All, trivial⟩ (fun x => by kernel_rfl)
noncomputable def E_sAreLightsSafe : Entry := ⟨aV (rOne (rAg (townR .shr .shr .shr .shr .shr .shr .shr))), qV rB, fun (x : Town) => S_sAreLightsSafe x⟩
theorem ok_sAreLightsSafe : Ok 33 E_sAreLightsSafe := mk Tryz.func33 (by kernel_rfl) [((68, 0), E_sLightsNow), ((67, 0), E_sIsSafeLights)] [] {} ⟨ok_sLightsNow, ok_sIsSafeLights, trivial⟩ (fun x => by kernel_rfl)
noncomputable def E_sEqualInts : Entry := ⟨aV (rCo (rX .shr 1 iR) (rOne (rX .shr 1 iR))), qV rB, fun (x : ((List Int) × (List Int))) => S_sEqualInts x.1 x.2⟩
theorem ok_sEqualInts : Ok 69 E_sEqualInts := mk Tryz.func69 (by kernel_rfl) [] [(3, iR)] { lv := [(4, ⟨[0, 1, 5], [], [], pV (rCo (rX .shr 1 iR) (rCo (rX .shr 1 iR) (rOne rI)))⟩)] } trivial (fun x => by kernel_rfl)
noncomputable def E_sIsRecordTrue : Entry := ⟨aV (rOne (rAg (townR .shr .shr .shr .shr .shr .shr .shr))), qV rB, fun (x : Town) => S_sIsRecordTrue x⟩
theorem ok_sIsRecordTrue : Ok 34 E_sIsRecordTrue := mk Tryz.func34 (by kernel_rfl) [((43, 0), E_sShownAt), ((68, 0), E_sLightsNow), ((69, 0), E_sEqualInts)] [] { tk := [(1, 5), (1, 6), (1, 8), (2, 2)] } ⟨ok_sShownAt, ok_sLightsNow, ok_sEqualInts, trivial⟩ (fun x => by kernel_rfl)
noncomputable def E_sLongestClear : Entry := ⟨aV (rOne (rX .shr 4 pathR)), qV rI, fun (x : (List Path)) => S_sLongestClear x⟩
theorem ok_sLongestClear : Ok 105 E_sLongestClear := mk Tryz.func105 (by kernel_rfl) [((100, 0), E_sArePaths), ((118, 0), E_sClearOf), ((117, 0), E_sMax)] [(82, pathR)] { lv := [(3, ⟨[0, 3, 4], [], [], pV (rCo (rX .shr 4 pathR) (rCo rI (rOne rI)))⟩)] } ⟨ok_sArePaths, ok_sClearOf, ok_sMax, trivial⟩ (fun x => by kernel_rfl)
noncomputable def E_sWaitBound : Entry := ⟨aV (rOne (rX .shr 4 pathR)), qV rI, fun (x : (List Path)) => S_sWaitBound x⟩
theorem ok_sWaitBound : Ok 70 E_sWaitBound := mk Tryz.func70 (by kernel_rfl) [((105, 0), E_sLongestClear)] [] {} ⟨ok_sLongestClear, trivial⟩ (fun x => by kernel_rfl)
noncomputable def E_sAreWaitsBounded : Entry := ⟨aV (rOne (rAg (townR .shr .shr .shr .shr .shr .shr .shr))), qV rB, fun (x : Town) => S_sAreWaitsBounded x⟩
theorem ok_sAreWaitsBounded : Ok 35 E_sAreWaitsBounded := mk Tryz.func35 (by kernel_rfl) [((70, 0), E_sWaitBound)] [(87, wantR)] { lv := [(2, ⟨[3], [(1, 1, false)], [(1, 13, false, false)], pVO (rOne rI) (oRow1 (townR .shr .shr .shr .shr .shr .shr .shr))⟩)] } ⟨ok_sWaitBound, trivial⟩ (fun x => by kernel_rfl)
noncomputable def E_sFaultOf : Entry := ⟨aV (rOne (rAg (townR .shr .shr .shr .shr .shr .shr .shr))), qV rS, fun (x : Town) => S_sFaultOf x⟩
theorem ok_sFaultOf : Ok 11 E_sFaultOf := mk Tryz.func11 (by kernel_rfl) [((32, 0), E_sIsTown), ((33, 0), E_sAreLightsSafe), ((34, 0), E_sIsRecordTrue), ((35, 0), E_sAreWaitsBounded)] [] {} ⟨ok_sIsTown, ok_sAreLightsSafe, ok_sIsRecordTrue, ok_sAreWaitsBounded, trivial⟩ (fun x => by kernel_rfl)
noncomputable def E_iModeFor_1 : Entry := ⟨aV (rOne (rAg lampR)), qV rB, fun (x : Lamp) => S_iModeFor_1 x⟩
theorem ok_iModeFor_1 : Ok 131 E_iModeFor_1 := mk Tryz.func131 (by kernel_rfl) [] [] {} trivial (fun x => by kernel_rfl)
noncomputable def E_slices_IndexFunc_loop_example_g03006_impl_Lamp_loop_example_g03006_impl_Lamp : Entry := ⟨aV (rCo (rX .shr 3 lampR) (rOne (rFn 131 rNil))), qV rI, fun (x : ((List Lamp) × Unit)) => S_slices_IndexFunc_loop_example_g03006_impl_Lamp_loop_example_g03006_impl_Lamp x.1⟩
theorem ok_slices_IndexFunc_loop_example_g03006_impl_Lamp_loop_example_g03006_impl_Lamp : Ok 134 E_slices_IndexFunc_loop_example_g03006_impl_Lamp_loop_example_g03006_impl_Lamp := mk Tryz.func134 (by kernel_rfl) [((131, 0), E_iModeFor_1)] [(91, lampR)] { lv := [(2, ⟨[0, 1, 7, 8], [], [], pV (rCo (rX .shr 3 lampR) (rCo (rFn 131 rNil) (rCo rI (rOne rI))))⟩)] } ⟨ok_iModeFor_1, trivial⟩ (fun x => by kernel_rfl)
noncomputable def E_slices_ContainsFunc_loop_example_g03006_impl_Lamp_loop_example_g03006_impl_Lamp : Entry := ⟨aV (rCo (rX .shr 3 lampR) (rOne (rFn 131 rNil))), qV rB, fun (x : ((List Lamp) × Unit)) => S_slices_ContainsFunc_loop_example_g03006_impl_Lamp_loop_example_g03006_impl_Lamp x.1⟩
theorem ok_slices_ContainsFunc_loop_example_g03006_impl_Lamp_loop_example_g03006_impl_Lamp : Ok 130 E_slices_ContainsFunc_loop_example_g03006_impl_Lamp_loop_example_g03006_impl_Lamp := mk Tryz.func130 (by kernel_rfl) [((134, 0), E_slices_IndexFunc_loop_example_g03006_impl_Lamp_loop_example_g03006_impl_Lamp)] [] {} ⟨ok_slices_IndexFunc_loop_example_g03006_impl_Lamp_loop_example_g03006_impl_Lamp, trivial⟩ (fun x => by kernel_rfl)
noncomputable def E_iModeFor : Entry := ⟨aV (rCo (rX .shr 4 pathR) (rCo (rX .shr 3 lampR) (rOne rB))), qV rI, fun (x : ((List Path) × (List Lamp) × Bool)) => S_iModeFor x.1 x.2.1 x.2.2⟩
theorem ok_iModeFor : Ok 125 E_iModeFor := mk Tryz.func125 (by kernel_rfl) [((74, 0), E_iAreLamps), ((130, 0), E_slices_ContainsFunc_loop_example_g03006_impl_Lamp_loop_example_g03006_impl_Lamp)] [] {} ⟨ok_iAreLamps, ok_slices_ContainsFunc_loop_example_g03006_impl_Lamp_loop_example_g03006_impl_Lamp, trivial⟩ (fun x => by kernel_rfl)
noncomputable def E_iModeOf : Entry := ⟨aV (rOne (rAg (townR .shr .shr .shr .shr .shr .shr .shr))), qV rI, fun (x : Town) => S_iModeOf x⟩
theorem ok_iModeOf : Ok 111 E_iModeOf := mk Tryz.func111 (by kernel_rfl) [((125, 0), E_iModeFor)] [] {} ⟨ok_iModeFor, trivial⟩ (fun x => by kernel_rfl)
noncomputable def E_iall : Entry := ⟨aV (rCo (rX .shr 4 pathR) (rOne rI)), qV (rX .own 1 iR), fun (x : ((List Path) × Int)) => S_iall x.1 x.2⟩
theorem ok_iall : Ok 112 E_iall := mk Tryz.func112 (by kernel_rfl) [] [] { tk := [(1, 1), (4, 0), (4, 3), (4, 4), (6, 0), (6, 1)], lv := [(3, ⟨[1, 5, 8, 9], [], [], pV (rCo rI (rCo (rX .own 1 iR) (rCo rI (rOne rI))))⟩)] } trivial (fun x => by kernel_rfl)
noncomputable def E_iLightsOf : Entry := ⟨aV (rCo (rX .shr 4 pathR) (rOne (rAg (controlR .shr .shr)))), qV (rX .own 1 iR), fun (x : ((List Path) × Control)) => S_iLightsOf x.1 x.2⟩
theorem ok_iLightsOf : Ok 113 E_iLightsOf := mk Tryz.func113 (by kernel_rfl) [((71, 0), E_iIsControl), ((126, 0), E_slices_Contains_int_int)] [(82, pathR)] { tk := [(1, 1), (3, 0), (3, 1), (12, 0), (12, 3), (12, 4), (14, 0), (14, 1)], lv := [(5, ⟨[5, 15, 16, 17], [(3, 3, false)], [(3, 4, false, false)], pVO (rCo (rX .own 1 iR) (rCo (rX .shr 4 pathR) (rCo rI (rOne rI)))) (oRow1 (controlR .shr .shr))⟩)] } ⟨ok_iIsControl, ok_slices_Contains_int_int, trivial⟩ (fun x => by kernel_rfl)
noncomputable def E_iLightsNow : Entry := ⟨aV (rOne (rAg (townR .shr .shr .shr .shr .shr .shr .shr))), qV (rX .own 1 iR), fun (x : Town) => S_iLightsNow x⟩
theorem ok_iLightsNow : Ok 79 E_iLightsNow := mk Tryz.func79 (by kernel_rfl) [((111, 0), E_iModeOf), ((112, 0), E_iall), ((113, 0), E_iLightsOf)] [] { tk := [(2, 3), (3, 5)] } ⟨ok_iModeOf, ok_iall, ok_iLightsOf, trivial⟩ (fun x => by kernel_rfl)
noncomputable def E_iAreLightsSafe : Entry := ⟨aV (rOne (rAg (townR .shr .shr .shr .shr .shr .shr .shr))), qV rB, fun (x : Town) => S_iAreLightsSafe x⟩
theorem ok_iAreLightsSafe : Ok 37 E_iAreLightsSafe := mk Tryz.func37 (by kernel_rfl) [((79, 0), E_iLightsNow), ((78, 0), E_iIsSafeLights)] [] {} ⟨ok_iLightsNow, ok_iIsSafeLights, trivial⟩ (fun x => by kernel_rfl)
noncomputable def E_slices_Clone_int_int : Entry := ⟨aV (rOne (rX .shr 1 iR)), qV (rX .own 1 iR), fun (x : (List Int)) => S_slices_Clone_int_int x⟩
theorem ok_slices_Clone_int_int : Ok 114 E_slices_Clone_int_int := mk Tryz.func114 (by kernel_rfl) [] [] { tk := [(3, 3)] } trivial (fun x => by kernel_rfl)
noncomputable def E_iShownAt : Entry := ⟨aV (rCo (rX .shr 3 (noteR .shr)) (rOne rI)), qV (rTu (rCo (rX .own 1 iR) (rOne rB))), fun (x : ((List Note) × Int)) => S_iShownAt x.1 x.2⟩
theorem ok_iShownAt : Ok 80 E_iShownAt := mk Tryz.func80 (by kernel_rfl) [((92, 0), E_ientryAt), ((114, 0), E_slices_Clone_int_int)] [(94, (noteR .shr))] { tk := [(3, 1), (4, 6)] } ⟨ok_ientryAt, ok_slices_Clone_int_int, trivial⟩ (fun x => by kernel_rfl)
noncomputable def E_slices_Equal_int_int : Entry := ⟨aV (rCo (rX .shr 1 iR) (rOne (rX .shr 1 iR))), qV rB, fun (x : ((List Int) × (List Int))) => S_slices_Equal_int_int x.1 x.2⟩
theorem ok_slices_Equal_int_int : Ok 81 E_slices_Equal_int_int := mk Tryz.func81 (by kernel_rfl) [] [(3, iR)] { lv := [(4, ⟨[0, 1, 12, 13], [], [], pV (rCo (rX .shr 1 iR) (rCo (rX .shr 1 iR) (rCo rI (rOne rI))))⟩)] } trivial (fun x => by kernel_rfl)
noncomputable def E_iIsRecordTrue : Entry := ⟨aV (rOne (rAg (townR .shr .shr .shr .shr .shr .shr .shr))), qV rB, fun (x : Town) => S_iIsRecordTrue x⟩
theorem ok_iIsRecordTrue : Ok 38 E_iIsRecordTrue := mk Tryz.func38 (by kernel_rfl) [((80, 0), E_iShownAt), ((79, 0), E_iLightsNow), ((81, 0), E_slices_Equal_int_int)] [] { tk := [(1, 5), (1, 6), (1, 8), (2, 2)] } ⟨ok_iShownAt, ok_iLightsNow, ok_slices_Equal_int_int, trivial⟩ (fun x => by kernel_rfl)
noncomputable def E_iLongestClear : Entry := ⟨aV (rOne (rX .shr 4 pathR)), qV rI, fun (x : (List Path)) => S_iLongestClear x⟩
theorem ok_iLongestClear : Ok 115 E_iLongestClear := mk Tryz.func115 (by kernel_rfl) [((108, 0), E_iArePaths), ((123, 0), E_iClearOf)] [(82, pathR)] { lv := [(5, ⟨[3, 10, 11, 12], [], [], pV (rCo rI (rCo (rX .shr 4 pathR) (rCo rI (rOne rI))))⟩)] } ⟨ok_iArePaths, ok_iClearOf, trivial⟩ (fun x => by kernel_rfl)
noncomputable def E_iWaitBound : Entry := ⟨aV (rOne (rX .shr 4 pathR)), qV rI, fun (x : (List Path)) => S_iWaitBound x⟩
theorem ok_iWaitBound : Ok 82 E_iWaitBound := mk Tryz.func82 (by kernel_rfl) [((115, 0), E_iLongestClear)] [] {} ⟨ok_iLongestClear, trivial⟩ (fun x => by kernel_rfl)
noncomputable def E_iAreWaitsBounded : Entry := ⟨aV (rOne (rAg (townR .shr .shr .shr .shr .shr .shr .shr))), qV rB, fun (x : Town) => S_iAreWaitsBounded x⟩
theorem ok_iAreWaitsBounded : Ok 39 E_iAreWaitsBounded := mk Tryz.func39 (by kernel_rfl) [((82, 0), E_iWaitBound)] [(87, wantR)] { lv := [(2, ⟨[6, 7, 8], [(1, 1, false)], [(1, 13, false, false)], pVO (rCo (rX .shr 2 wantR) (rCo rI (rOne rI))) (oRow1 (townR .shr .shr .shr .shr .shr .shr .shr))⟩)] } ⟨ok_iWaitBound, trivial⟩ (fun x => by kernel_rfl)
noncomputable def E_iFaultOf : Entry := ⟨aV (rOne (rAg (townR .shr .shr .shr .shr .shr .shr .shr))), qV rS, fun (x : Town) => S_iFaultOf x⟩
theorem ok_iFaultOf : Ok 12 E_iFaultOf := mk Tryz.func12 (by kernel_rfl) [((36, 0), E_iIsTown), ((37, 0), E_iAreLightsSafe), ((38, 0), E_iIsRecordTrue), ((39, 0), E_iAreWaitsBounded)] [] {} ⟨ok_iIsTown, ok_iAreLightsSafe, ok_iIsRecordTrue, ok_iAreWaitsBounded, trivial⟩ (fun x => by kernel_rfl)
noncomputable def E_lFnExactFaultOf : Entry := ⟨aV (rOne (rAg (townR .shr .shr .shr .shr .shr .shr .shr))), qV rB, fun (x : Town) => S_lFnExactFaultOf x⟩
theorem ok_lFnExactFaultOf : Ok 4 E_lFnExactFaultOf := mk Tryz.func4 (by kernel_rfl) [((5, 0), E_lszTown), ((7, 0), E_ltoTown), ((11, 0), E_sFaultOf), ((12, 0), E_iFaultOf), ((10, 0), E_leqTown)] [] { tk := [(6, 3)] } ⟨ok_lszTown, ok_ltoTown, ok_sFaultOf, ok_iFaultOf, ok_leqTown, trivial⟩ (fun x => by kernel_rfl)
end Go.Proofs.YteaoohmablanhaaGreat
