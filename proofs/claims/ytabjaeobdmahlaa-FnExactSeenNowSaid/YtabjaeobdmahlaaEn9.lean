/- Part of the proof: see the last text of the claim. -/
import Derived.Test.YtabjaeobdmahlaaSh9
import Derived.KernelRfl
import Derived.Test.YtabjaeobdmahlaaRows
set_option linter.all false
namespace Go.Proofs.Ytabjaeobdmahlaa
open Go.Fx Go.Sh
set_option maxRecDepth 100000
set_option linter.unusedSectionVars false
def emS : Value := .string ⟨#[]⟩
def tab : List (Nat × TD) := [(3, .sc (.int .i64 0)),
  (4, .sc (.bool false)),
  (22, .sl 84 4),
  (23, .sl 3 1),
  (25, .st [(some 1, .slice none 0 0), (none, .int .i64 0), (some 1, .slice none 0 0), (none, .int .i64 0)] [(0, 1), (1, 1), (2, 1), (3, 1)]),
  (26, .sl 89 2),
  (28, .st [(none, .int .i64 0), (none, .int .i64 0)] [(0, 1), (1, 1)]),
  (29, .sl 93 3),
  (30, .sl 77 3),
  (32, .st [(some 4, .slice none 0 0), (some 1, .slice none 0 0), (none, .int .i64 0), (some 1, .slice none 0 0), (none, .int .i64 0), (some 2, .slice none 0 0), (none, .int .i64 0), (none, .int .i64 0), (some 3, .slice none 0 0), (none, .bool false), (some 3, .slice none 0 0), (none, .int .i64 0), (none, .int .i64 0)] [(0, 1), (1, 4), (5, 1), (6, 2), (8, 1), (9, 1), (10, 1), (11, 1), (12, 1)]),
  (35, .sl 81 4),
  (36, .st [(some 1, .slice none 0 0), (none, .int .i64 0), (some 1, .slice none 0 0), (none, .int .i64 0)] [(0, 1), (1, 1), (2, 1), (3, 1)]),
  (37, .sl 87 2),
  (38, .st [(none, .int .i64 0), (none, .int .i64 0)] [(0, 1), (1, 1)]),
  (39, .sl 91 3),
  (40, .sl 94 3),
  (42, .st [(some 4, .slice none 0 0), (some 1, .slice none 0 0), (none, .int .i64 0), (some 1, .slice none 0 0), (none, .int .i64 0), (some 2, .slice none 0 0), (none, .int .i64 0), (none, .int .i64 0), (some 3, .slice none 0 0), (none, .bool false), (some 3, .slice none 0 0), (none, .int .i64 0), (none, .int .i64 0)] [(0, 1), (1, 4), (5, 1), (6, 2), (8, 1), (9, 1), (10, 1), (11, 1), (12, 1)]),
  (77, .st [(none, .int .i64 0), (some 1, .slice none 0 0), (none, .int .i64 0)] [(0, 1), (1, 1), (2, 1)]),
  (81, .st [(none, .int .i64 0), (none, .int .i64 0), (none, .int .i64 0), (none, .int .i64 0)] [(0, 1), (1, 1), (2, 1), (3, 1)]),
  (84, .st [(none, .int .i64 0), (none, .int .i64 0), (none, .int .i64 0), (none, .int .i64 0)] [(0, 1), (1, 1), (2, 1), (3, 1)]),
  (87, .st [(none, .int .i64 0), (none, .int .i64 0)] [(0, 1), (1, 1)]),
  (89, .st [(none, .int .i64 0), (none, .int .i64 0)] [(0, 1), (1, 1)]),
  (91, .st [(none, .int .i64 0), (none, .int .i64 0), (none, .bool false)] [(0, 1), (1, 1), (2, 1)]),
  (93, .st [(none, .int .i64 0), (none, .int .i64 0), (none, .bool false)] [(0, 1), (1, 1), (2, 1)]),
  (94, .st [(none, .int .i64 0), (some 1, .slice none 0 0), (none, .int .i64 0)] [(0, 1), (1, 1), (2, 1)]),
  (104, .sc .nilFunc),
  (112, .sc .nilFunc)]
theorem tab_ok : TOk Try.prog (tabT tab) := tabT_ok (by kernel_rfl)
theorem mixed : Try.prog.follows .mixedOrders = true := by kernel_rfl
abbrev nG : Nat := 0
abbrev gG : Nat → Option Obj := fun _ => none
abbrev Ok (f : Nat) (en : Entry) : Prop := EntryOk Try.prog nG gG f en
abbrev OkU (f : Nat) (en : Entry) : Prop := EntryUOk Try.prog nG gG f en
theorem mk {f : Nat} {fn : Func} {en : Entry} (hfn : Try.prog.funcs[f]? = some fn) (hname : (fn.name == "runtime.NumGoroutine") = false) (cs us : List ((Nat × Nat) × Entry)) (R : List (Nat × RR)) (h : Hints) (hcs : AllOk Try.prog nG gG cs) (hus : AllUOk Try.prog nG gG us)
    (hL : ∀ x, evalBody (ctxOf (tabT tab) cs us (fun _ => false) R h fn.ntmps NN) fn en.rs (en.ps.enc x).1 (en.ps.enc x).2 = en.S x) : Ok f en := fn_ok tab_ok mixed hfn hname hcs hus hL
theorem mkU {f : Nat} {fn : Func} {en : Entry} (hfn : Try.prog.funcs[f]? = some fn) (hname : (fn.name == "runtime.NumGoroutine") = false) (cs us : List ((Nat × Nat) × Entry)) (R : List (Nat × RR)) (h : Hints) (hcs : AllOk Try.prog nG gG cs) (hus : AllUOk Try.prog nG gG us)
    (hL : ∀ x, evalBodyU (ctxOf (tabT tab) cs us (fun _ => false) R h fn.ntmps NN true) fn en.rs (en.ps.enc x).1 = en.S x) : OkU f en := fnU_ok tab_ok mixed hfn hname hcs hus hL
noncomputable def E_lszPathS : Entry := ⟨aV (rCo (rX .shr 4 pathR) (rOne rI)), qV rI, fun (x : ((List Path) × Int)) => S_lszPathS x.1 x.2⟩
theorem ok_lszPathS : Ok 13 E_lszPathS := mk Try.func13 (by kernel_rfl) [] [] [] {} trivial trivial (fun x => by kernel_rfl)
noncomputable def E_lszIntS : Entry := ⟨aV (rCo (rX .shr 1 iR) (rOne rI)), qV rI, fun (x : ((List Int) × Int)) => S_lszIntS x.1 x.2⟩
theorem ok_lszIntS : Ok 43 E_lszIntS := mk Try.func43 (by kernel_rfl) [] [] [] {} trivial trivial (fun x => by kernel_rfl)
noncomputable def E_lszControl : Entry := ⟨aV (rCo (rAg (controlR .shr .shr)) (rOne rI)), qV rI, fun (x : (Control × Int)) => S_lszControl x.1 x.2⟩
theorem ok_lszControl : Ok 14 E_lszControl := mk Try.func14 (by kernel_rfl) [((43, 0), E_lszIntS)] [] [] {} ⟨ok_lszIntS, trivial⟩ trivial (fun x => by kernel_rfl)
noncomputable def E_lszWantS : Entry := ⟨aV (rCo (rX .shr 2 wantR) (rOne rI)), qV rI, fun (x : ((List Want) × Int)) => S_lszWantS x.1 x.2⟩
theorem ok_lszWantS : Ok 15 E_lszWantS := mk Try.func15 (by kernel_rfl) [] [] [] {} trivial trivial (fun x => by kernel_rfl)
noncomputable def E_lszLampS : Entry := ⟨aV (rCo (rX .shr 3 lampR) (rOne rI)), qV rI, fun (x : ((List Lamp) × Int)) => S_lszLampS x.1 x.2⟩
theorem ok_lszLampS : Ok 16 E_lszLampS := mk Try.func16 (by kernel_rfl) [] [] [] {} trivial trivial (fun x => by kernel_rfl)
noncomputable def E_lszEntry : Entry := ⟨aV (rCo (rAg (noteR .shr)) (rOne rI)), qV rI, fun (x : (Note × Int)) => S_lszEntry x.1 x.2⟩
theorem ok_lszEntry : Ok 44 E_lszEntry := mk Try.func44 (by kernel_rfl) [((43, 0), E_lszIntS)] [] [] {} ⟨ok_lszIntS, trivial⟩ trivial (fun x => by kernel_rfl)
noncomputable def E_lszEntryS : Entry := ⟨aV (rCo (rX .shr 3 (noteR .shr)) (rOne rI)), qV rI, fun (x : ((List Note) × Int)) => S_lszEntryS x.1 x.2⟩
theorem ok_lszEntryS : Ok 17 E_lszEntryS := mk Try.func17 (by kernel_rfl) [((44, 0), E_lszEntry)] [] [(77, (noteR .shr))] { lv := [(5, ⟨[0, 1, 5], [], [], pV (rCo (rX .shr 3 (noteR .shr)) (rCo rI (rOne rI)))⟩)] } ⟨ok_lszEntry, trivial⟩ trivial (fun x => by kernel_rfl)
noncomputable def E_lszTown : Entry := ⟨aV (rCo (rAg (townR .shr .shr .shr .shr .shr .shr .shr)) (rOne rI)), qV rI, fun (x : (Town × Int)) => S_lszTown x.1 x.2⟩
theorem ok_lszTown : Ok 4 E_lszTown := mk Try.func4 (by kernel_rfl) [((13, 0), E_lszPathS), ((14, 0), E_lszControl), ((15, 0), E_lszWantS), ((16, 0), E_lszLampS), ((17, 0), E_lszEntryS)] [] [] {} ⟨ok_lszPathS, ok_lszControl, ok_lszWantS, ok_lszLampS, ok_lszEntryS, trivial⟩ trivial (fun x => by kernel_rfl)
noncomputable def E_ltoPath : Entry := ⟨aV (rOne (rAg pathR)), qV (rAg pathR), fun (x : Path) => S_ltoPath x⟩
theorem ok_ltoPath : Ok 48 E_ltoPath := mk Try.func48 (by kernel_rfl) [] [] [] {} trivial trivial (fun x => by kernel_rfl)
noncomputable def E_ltoPathS : Entry := ⟨aV (rOne (rX .shr 4 pathR)), qV (rX .own 4 pathR), fun (x : (List Path)) => S_ltoPathS x⟩
theorem ok_ltoPathS : Ok 22 E_ltoPathS := mk Try.func22 (by kernel_rfl) [((48, 0), E_ltoPath)] [] [(84, pathR)] { ro := [(7, pathR)], lv := [(3, ⟨[0, 4], [(3, 7, true)], [(7, 4, true, false)], pVO (rCo (rX .shr 4 pathR) (rOne rI)) (oArr1 pathR)⟩)] } ⟨ok_ltoPath, trivial⟩ trivial (fun x => by kernel_rfl)
noncomputable def E_ltoIntS : Entry := ⟨aV (rOne (rX .shr 1 iR)), qV (rX .own 1 iR), fun (x : (List Int)) => S_ltoIntS x⟩
theorem ok_ltoIntS : Ok 49 E_ltoIntS := mk Try.func49 (by kernel_rfl) [] [] [(3, iR)] { ro := [(7, iR)], lv := [(3, ⟨[0, 4], [(3, 7, true)], [(7, 1, true, false)], pVO (rCo (rX .shr 1 iR) (rOne rI)) (oArr1 iR)⟩)] } trivial trivial (fun x => by kernel_rfl)
noncomputable def E_ltoControl : Entry := ⟨aV (rOne (rAg (controlR .shr .shr))), qV (rAg (controlR .own .own)), fun (x : Control) => S_ltoControl x⟩
theorem ok_ltoControl : Ok 23 E_ltoControl := mk Try.func23 (by kernel_rfl) [((49, 0), E_ltoIntS)] [] [] { tk := [(2, 4), (4, 4), (6, 1)], mo := [(6, 0)] } ⟨ok_ltoIntS, trivial⟩ trivial (fun x => by kernel_rfl)
noncomputable def E_ltoWant : Entry := ⟨aV (rOne (rAg wantR)), qV (rAg wantR), fun (x : Want) => S_ltoWant x⟩
theorem ok_ltoWant : Ok 50 E_ltoWant := mk Try.func50 (by kernel_rfl) [] [] [] {} trivial trivial (fun x => by kernel_rfl)
noncomputable def E_ltoWantS : Entry := ⟨aV (rOne (rX .shr 2 wantR)), qV (rX .own 2 wantR), fun (x : (List Want)) => S_ltoWantS x⟩
theorem ok_ltoWantS : Ok 24 E_ltoWantS := mk Try.func24 (by kernel_rfl) [((50, 0), E_ltoWant)] [] [(89, wantR)] { ro := [(7, wantR)], lv := [(3, ⟨[0, 4], [(3, 7, true)], [(7, 2, true, false)], pVO (rCo (rX .shr 2 wantR) (rOne rI)) (oArr1 wantR)⟩)] } ⟨ok_ltoWant, trivial⟩ trivial (fun x => by kernel_rfl)
noncomputable def E_ltoPrio : Entry := ⟨aV (rOne (rAg prioR)), qV (rAg prioR), fun (x : Prio) => S_ltoPrio x⟩
theorem ok_ltoPrio : Ok 25 E_ltoPrio := mk Try.func25 (by kernel_rfl) [] [] [] {} trivial trivial (fun x => by kernel_rfl)
noncomputable def E_ltoLamp : Entry := ⟨aV (rOne (rAg lampR)), qV (rAg lampR), fun (x : Lamp) => S_ltoLamp x⟩
theorem ok_ltoLamp : Ok 51 E_ltoLamp := mk Try.func51 (by kernel_rfl) [] [] [] {} trivial trivial (fun x => by kernel_rfl)
noncomputable def E_ltoLampS : Entry := ⟨aV (rOne (rX .shr 3 lampR)), qV (rX .own 3 lampR), fun (x : (List Lamp)) => S_ltoLampS x⟩
theorem ok_ltoLampS : Ok 26 E_ltoLampS := mk Try.func26 (by kernel_rfl) [((51, 0), E_ltoLamp)] [] [(93, lampR)] { ro := [(7, lampR)], lv := [(3, ⟨[0, 4], [(3, 7, true)], [(7, 3, true, false)], pVO (rCo (rX .shr 3 lampR) (rOne rI)) (oArr1 lampR)⟩)] } ⟨ok_ltoLamp, trivial⟩ trivial (fun x => by kernel_rfl)
noncomputable def E_ltoEntry : Entry := ⟨aV (rOne (rAg (noteR .shr))), qV (rAg (noteR .own)), fun (x : Note) => S_ltoEntry x⟩
theorem ok_ltoEntry : Ok 52 E_ltoEntry := mk Try.func52 (by kernel_rfl) [((49, 0), E_ltoIntS)] [] [] { tk := [(3, 4), (5, 1)], mo := [(5, 0)] } ⟨ok_ltoIntS, trivial⟩ trivial (fun x => by kernel_rfl)
noncomputable def E_ltoEntryS : Entry := ⟨aV (rOne (rX .shr 3 (noteR .shr))), qV (rX .own 3 (noteR .own)), fun (x : (List Note)) => S_ltoEntryS x⟩
theorem ok_ltoEntryS : Ok 27 E_ltoEntryS := mk Try.func27 (by kernel_rfl) [((52, 0), E_ltoEntry)] [] [(77, (noteR .shr))] { tk := [(5, 8)], ro := [(7, (noteR .own))], lv := [(3, ⟨[0, 4], [(3, 7, true)], [(7, 3, true, false)], pVO (rCo (rX .shr 3 (noteR .shr)) (rOne rI)) (oArr1 (noteR .own))⟩)] } ⟨ok_ltoEntry, trivial⟩ trivial (fun x => by kernel_rfl)
noncomputable def E_ltoTown : Entry := ⟨aV (rOne (rAg (townR .shr .shr .shr .shr .shr .shr .shr))), qV (rAg (townR .own .own .own .own .own .own .own)), fun (x : Town) => S_ltoTown x⟩
theorem ok_ltoTown : Ok 6 E_ltoTown := mk Try.func6 (by kernel_rfl) [((22, 0), E_ltoPathS), ((23, 0), E_ltoControl), ((24, 0), E_ltoWantS), ((25, 0), E_ltoPrio), ((26, 0), E_ltoLampS), ((27, 0), E_ltoEntryS)] [] [] { tk := [(2, 4), (3, 4), (4, 4), (6, 4), (8, 4), (11, 1)], mo := [(11, 0)] } ⟨ok_ltoPathS, ok_ltoControl, ok_ltoWantS, ok_ltoPrio, ok_ltoLampS, ok_ltoEntryS, trivial⟩ trivial (fun x => by kernel_rfl)
noncomputable def E_sFindPath : Entry := ⟨aV (rCo (rX .shr 4 pathR) (rOne rI)), qV rI, fun (x : ((List Path) × Int)) => S_sFindPath x.1 x.2⟩
theorem ok_sFindPath : Ok 69 E_sFindPath := mk Try.func69 (by kernel_rfl) [] [] [(81, pathR)] { lv := [(2, ⟨[0, 1, 5], [], [], pV (rCo (rX .shr 4 pathR) (rCo rI (rOne rI)))⟩)] } trivial trivial (fun x => by kernel_rfl)
noncomputable def E_sl1In : Entry := ⟨aV (rCo rI (rCo rI (rOne rI))), qV rB, fun (x : (Int × Int × Int)) => S_sl1In x.1 x.2.1 x.2.2⟩
theorem ok_sl1In : Ok 70 E_sl1In := mk Try.func70 (by kernel_rfl) [] [] [] {} trivial trivial (fun x => by kernel_rfl)
noncomputable def E_sIsPath : Entry := ⟨aV (rOne (rAg pathR)), qV rB, fun (x : Path) => S_sIsPath x⟩
theorem ok_sIsPath : Ok 82 E_sIsPath := mk Try.func82 (by kernel_rfl) [((70, 0), E_sl1In)] [] [] {} ⟨ok_sl1In, trivial⟩ trivial (fun x => by kernel_rfl)
noncomputable def E_sArePaths : Entry := ⟨aV (rOne (rX .shr 4 pathR)), qV rB, fun (x : (List Path)) => S_sArePaths x⟩
theorem ok_sArePaths : Ok 71 E_sArePaths := mk Try.func71 (by kernel_rfl) [((82, 0), E_sIsPath)] [] [(81, pathR)] { lv := [(2, ⟨[0, 3], [], [], pV (rCo (rX .shr 4 pathR) (rOne rI))⟩)] } ⟨ok_sIsPath, trivial⟩ trivial (fun x => by kernel_rfl)
noncomputable def E_sAreLamps : Entry := ⟨aV (rCo (rX .shr 4 pathR) (rOne (rX .shr 3 lampR))), qV rB, fun (x : ((List Path) × (List Lamp))) => S_sAreLamps x.1 x.2⟩
theorem ok_sAreLamps : Ok 60 E_sAreLamps := mk Try.func60 (by kernel_rfl) [((69, 0), E_sFindPath), ((70, 0), E_sl1In), ((71, 0), E_sArePaths)] [] [(91, lampR)] { lv := [(2, ⟨[0, 1, 5], [], [], pV (rCo (rX .shr 4 pathR) (rCo (rX .shr 3 lampR) (rOne rI)))⟩), (7, ⟨[0, 1, 5, 6], [], [], pV (rCo (rX .shr 4 pathR) (rCo (rX .shr 3 lampR) (rCo rI (rOne rI))))⟩)] } ⟨ok_sFindPath, ok_sl1In, ok_sArePaths, trivial⟩ trivial (fun x => by kernel_rfl)
noncomputable def E_sModeFor : Entry := ⟨aV (rCo (rX .shr 4 pathR) (rCo (rX .shr 3 lampR) (rOne rB))), qV rI, fun (x : ((List Path) × (List Lamp) × Bool)) => S_sModeFor x.1 x.2.1 x.2.2⟩
theorem ok_sModeFor : Ok 45 E_sModeFor := mk Try.func45 (by kernel_rfl) [((60, 0), E_sAreLamps)] [] [(91, lampR)] { lv := [(4, ⟨[0, 1, 7], [], [], pV (rCo (rX .shr 4 pathR) (rCo (rX .shr 3 lampR) (rOne rI)))⟩)] } ⟨ok_sAreLamps, trivial⟩ trivial (fun x => by kernel_rfl)
noncomputable def E_sModeOf : Entry := ⟨aV (rOne (rAg (townR .shr .shr .shr .shr .shr .shr .shr))), qV rI, fun (x : Town) => S_sModeOf x⟩
theorem ok_sModeOf : Ok 18 E_sModeOf := mk Try.func18 (by kernel_rfl) [((45, 0), E_sModeFor)] [] [] {} ⟨ok_sModeFor, trivial⟩ trivial (fun x => by kernel_rfl)
noncomputable def E_sInPlace : Entry := ⟨aV (rOne rI), qV rI, fun (x : Int) => S_sInPlace x⟩
theorem ok_sInPlace : Ok 94 E_sInPlace := mk Try.func94 (by kernel_rfl) [((70, 0), E_sl1In)] [] [] {} ⟨ok_sl1In, trivial⟩ trivial (fun x => by kernel_rfl)
noncomputable def E_sOutPlace : Entry := ⟨aV (rOne rI), qV rI, fun (x : Int) => S_sOutPlace x⟩
theorem ok_sOutPlace : Ok 95 E_sOutPlace := mk Try.func95 (by kernel_rfl) [((70, 0), E_sl1In)] [] [] {} ⟨ok_sl1In, trivial⟩ trivial (fun x => by kernel_rfl)
noncomputable def E_sInterleave : Entry := ⟨aV (rCo rI (rCo rI (rCo rI (rOne rI)))), qV rB, fun (x : (Int × Int × Int × Int)) => S_sInterleave x.1 x.2.1 x.2.2.1 x.2.2.2⟩
theorem ok_sInterleave : Ok 93 E_sInterleave := mk Try.func93 (by kernel_rfl) [((70, 0), E_sl1In)] [] [(3, iR)] { tk := [(1, 5)], lv := [(3, ⟨[0, 1, 2, 3, 9, 10], [], [], pV (rCo rI (rCo rI (rCo rI (rCo rI (rCo (rX .own 1 iR) (rOne rI))))))⟩), (6, ⟨[0, 1, 2, 3, 9, 10, 11], [], [], pV (rCo rI (rCo rI (rCo rI (rCo rI (rCo (rX .own 1 iR) (rCo rI (rOne rI)))))))⟩), (14, ⟨[1, 2, 3, 12, 13], [], [], pV (rCo rI (rCo rI (rCo rI (rCo rI (rOne rI)))))⟩)] } ⟨ok_sl1In, trivial⟩ trivial (fun x => by kernel_rfl)
noncomputable def E_sConflict : Entry := ⟨aV (rCo (rAg pathR) (rOne (rAg pathR))), qV rB, fun (x : (Path × Path)) => S_sConflict x.1 x.2⟩
theorem ok_sConflict : Ok 83 E_sConflict := mk Try.func83 (by kernel_rfl) [((82, 0), E_sIsPath), ((94, 0), E_sInPlace), ((95, 0), E_sOutPlace), ((93, 0), E_sInterleave)] [] [] {} ⟨ok_sIsPath, ok_sInPlace, ok_sOutPlace, ok_sInterleave, trivial⟩ trivial (fun x => by kernel_rfl)
noncomputable def E_sIsTogether : Entry := ⟨aV (rCo (rX .shr 4 pathR) (rOne (rX .shr 1 iR))), qV rB, fun (x : ((List Path) × (List Int))) => S_sIsTogether x.1 x.2⟩
theorem ok_sIsTogether : Ok 72 E_sIsTogether := mk Try.func72 (by kernel_rfl) [((69, 0), E_sFindPath), ((83, 0), E_sConflict), ((71, 0), E_sArePaths)] [] [(3, iR), (81, pathR)] { lv := [(2, ⟨[0, 1, 5], [], [], pV (rCo (rX .shr 4 pathR) (rCo (rX .shr 1 iR) (rOne rI)))⟩), (8, ⟨[0, 1, 5, 6, 7], [], [], pV (rCo (rX .shr 4 pathR) (rCo (rX .shr 1 iR) (rCo rI (rCo rI (rOne rI)))))⟩)] } ⟨ok_sFindPath, ok_sConflict, ok_sArePaths, trivial⟩ trivial (fun x => by kernel_rfl)
noncomputable def E_sl6Has : Entry := ⟨aV (rCo (rX .shr 1 iR) (rOne rI)), qV rB, fun (x : ((List Int) × Int)) => S_sl6Has x.1 x.2⟩
theorem ok_sl6Has : Ok 62 E_sl6Has := mk Try.func62 (by kernel_rfl) [] [] [(3, iR)] { lv := [(2, ⟨[0, 1, 5], [], [], pV (rCo (rX .shr 1 iR) (rCo rI (rOne rI)))⟩)] } trivial trivial (fun x => by kernel_rfl)
noncomputable def E_sCloses : Entry := ⟨aV (rCo (rX .shr 1 iR) (rOne (rX .shr 1 iR))), qV (rX .own 1 iR), fun (x : ((List Int) × (List Int))) => S_sCloses x.1 x.2⟩
theorem ok_sCloses : Ok 84 E_sCloses := mk Try.func84 (by kernel_rfl) [((62, 0), E_sl6Has)] [] [(3, iR)] { tk := [(1, 1), (6, 0), (6, 6), (6, 7), (7, 0), (7, 1)], lv := [(3, ⟨[0, 1, 5, 6], [], [], pV (rCo (rX .shr 1 iR) (rCo (rX .shr 1 iR) (rCo (rX .own 1 iR) (rOne rI))))⟩)] } ⟨ok_sl6Has, trivial⟩ trivial (fun x => by kernel_rfl)
noncomputable def E_sClearOf : Entry := ⟨aV (rOne (rAg pathR)), qV rI, fun (x : Path) => S_sClearOf x⟩
theorem ok_sClearOf : Ok 86 E_sClearOf := mk Try.func86 (by kernel_rfl) [((82, 0), E_sIsPath)] [] [(3, iR)] {} ⟨ok_sIsPath, trivial⟩ trivial (fun x => by kernel_rfl)
noncomputable def E_sMax : Entry := ⟨aV (rCo rI (rOne rI)), qV rI, fun (x : (Int × Int)) => S_sMax x.1 x.2⟩
theorem ok_sMax : Ok 85 E_sMax := mk Try.func85 (by kernel_rfl) [] [] [] {} trivial trivial (fun x => by kernel_rfl)
noncomputable def E_sClearBetween : Entry := ⟨aV (rCo (rX .shr 4 pathR) (rCo (rX .shr 1 iR) (rOne (rX .shr 1 iR)))), qV rI, fun (x : ((List Path) × (List Int) × (List Int))) => S_sClearBetween x.1 x.2.1 x.2.2⟩
theorem ok_sClearBetween : Ok 73 E_sClearBetween := mk Try.func73 (by kernel_rfl) [((84, 0), E_sCloses), ((72, 0), E_sIsTogether), ((69, 0), E_sFindPath), ((83, 0), E_sConflict), ((86, 0), E_sClearOf), ((85, 0), E_sMax)] [] [(3, iR), (81, pathR)] { tk := [(2, 3), (3, 3)], lv := [(5, ⟨[0, 1, 2, 7, 8, 9, 10], [], [], pV (rCo (rX .shr 4 pathR) (rCo (rX .shr 1 iR) (rCo (rX .shr 1 iR) (rCo rI (rCo (rX .own 1 iR) (rCo (rX .own 1 iR) (rOne rI)))))))⟩), (8, ⟨[0, 1, 2, 7, 8, 9, 10, 11], [], [], pV (rCo (rX .shr 4 pathR) (rCo (rX .shr 1 iR) (rCo (rX .shr 1 iR) (rCo rI (rCo (rX .own 1 iR) (rCo (rX .own 1 iR) (rCo rI (rOne rI))))))))⟩)] } ⟨ok_sCloses, ok_sIsTogether, ok_sFindPath, ok_sConflict, ok_sClearOf, ok_sMax, trivial⟩ trivial (fun x => by kernel_rfl)
noncomputable def E_sIsControl : Entry := ⟨aV (rCo (rX .shr 4 pathR) (rOne (rAg (controlR .shr .shr)))), qV rB, fun (x : ((List Path) × Control)) => S_sIsControl x.1 x.2⟩
theorem ok_sIsControl : Ok 61 E_sIsControl := mk Try.func61 (by kernel_rfl) [((72, 0), E_sIsTogether), ((70, 0), E_sl1In), ((73, 0), E_sClearBetween)] [] [] {} ⟨ok_sIsTogether, ok_sl1In, ok_sClearBetween, trivial⟩ trivial (fun x => by kernel_rfl)
noncomputable def E_sLightsOf : Entry := ⟨aV (rCo (rX .shr 4 pathR) (rOne (rAg (controlR .shr .shr)))), qV (rX .own 1 iR), fun (x : ((List Path) × Control)) => S_sLightsOf x.1 x.2⟩
theorem ok_sLightsOf : Ok 47 E_sLightsOf := mk Try.func47 (by kernel_rfl) [((61, 0), E_sIsControl), ((62, 0), E_sl6Has)] [] [(81, pathR)] { tk := [(1, 1), (10, 0), (10, 3), (10, 4), (11, 0), (11, 1)], lv := [(3, ⟨[0, 5, 6], [(3, 3, false)], [(3, 4, false, false)], pVO (rCo (rX .shr 4 pathR) (rCo (rX .own 1 iR) (rOne rI))) (oRow1 (controlR .shr .shr))⟩)] } ⟨ok_sIsControl, ok_sl6Has, trivial⟩ trivial (fun x => by kernel_rfl)
noncomputable def E_sl33All : Entry := ⟨aV (rCo (rAg (townR .shr .shr .shr .shr .shr .shr .shr)) (rOne rI)), qV (rX .own 1 iR), fun (x : (Town × Int)) => S_sl33All x.1 x.2⟩
theorem ok_sl33All : Ok 21 E_sl33All := mk Try.func21 (by kernel_rfl) [] [] [] { tk := [(1, 1), (5, 0), (5, 3), (5, 4), (6, 0), (6, 1)], lv := [(3, ⟨[1, 5, 6], [(2, 2, false)], [(2, 13, false, false)], pVO (rCo rI (rCo (rX .own 1 iR) (rOne rI))) (oRow1 (townR .shr .shr .shr .shr .shr .shr .shr))⟩)] } trivial trivial (fun x => by kernel_rfl)
noncomputable def E_sLightsNow : Entry := ⟨aV (rOne (rAg (townR .shr .shr .shr .shr .shr .shr .shr))), qV (rX .own 1 iR), fun (x : Town) => S_sLightsNow x⟩
theorem ok_sLightsNow : Ok 20 E_sLightsNow := mk Try.func20 (by kernel_rfl) [((18, 0), E_sModeOf), ((47, 0), E_sLightsOf), ((21, 0), E_sl33All)] [] [] { tk := [(2, 5), (3, 2)] } ⟨ok_sModeOf, ok_sLightsOf, ok_sl33All, trivial⟩ trivial (fun x => by kernel_rfl)
noncomputable def E_sIsBroken : Entry := ⟨aV (rCo (rX .shr 3 lampR) (rCo rI (rOne rI))), qV rB, fun (x : ((List Lamp) × Int × Int)) => S_sIsBroken x.1 x.2.1 x.2.2⟩
theorem ok_sIsBroken : Ok 46 E_sIsBroken := mk Try.func46 (by kernel_rfl) [] [] [(91, lampR)] { lv := [(2, ⟨[0, 1, 2, 7], [], [], pV (rCo (rX .shr 3 lampR) (rCo rI (rCo rI (rOne rI))))⟩)] } trivial trivial (fun x => by kernel_rfl)
noncomputable def E_sVisible : Entry := ⟨aV (rCo (rX .shr 4 pathR) (rCo (rX .shr 3 lampR) (rOne (rX .shr 1 iR)))), qV (rX .own 1 iR), fun (x : ((List Path) × (List Lamp) × (List Int))) => S_sVisible x.1 x.2.1 x.2.2⟩
theorem ok_sVisible : Ok 19 E_sVisible := mk Try.func19 (by kernel_rfl) [((46, 0), E_sIsBroken)] [] [(3, iR), (81, pathR)] { tk := [(1, 1), (8, 0), (8, 3), (8, 4), (9, 0), (9, 1)], lv := [(3, ⟨[0, 1, 2, 7, 8], [], [], pV (rCo (rX .shr 4 pathR) (rCo (rX .shr 3 lampR) (rCo (rX .shr 1 iR) (rCo (rX .own 1 iR) (rOne rI)))))⟩)] } ⟨ok_sIsBroken, trivial⟩ trivial (fun x => by kernel_rfl)
noncomputable def E_sSeenNow : Entry := ⟨aV (rOne (rAg (townR .shr .shr .shr .shr .shr .shr .shr))), qV (rX .own 1 iR), fun (x : Town) => S_sSeenNow x⟩
theorem ok_sSeenNow : Ok 5 E_sSeenNow := mk Try.func5 (by kernel_rfl) [((18, 0), E_sModeOf), ((20, 0), E_sLightsNow), ((19, 0), E_sVisible), ((21, 0), E_sl33All)] [] [] { tk := [(2, 7), (3, 2)] } ⟨ok_sModeOf, ok_sLightsNow, ok_sVisible, ok_sl33All, trivial⟩ trivial (fun x => by kernel_rfl)
noncomputable def E_iInRange : Entry := ⟨aV (rCo rI (rCo rI (rOne rI))), qV rB, fun (x : (Int × Int × Int)) => S_iInRange x.1 x.2.1 x.2.2⟩
theorem ok_iInRange : Ok 79 E_iInRange := mk Try.func79 (by kernel_rfl) [] [] [] {} trivial trivial (fun x => by kernel_rfl)
noncomputable def E_iIsPath : Entry := ⟨aV (rOne (rAg pathR)), qV rB, fun (x : Path) => S_iIsPath x⟩
theorem ok_iIsPath : Ok 87 E_iIsPath := mk Try.func87 (by kernel_rfl) [((79, 0), E_iInRange)] [] [] {} ⟨ok_iInRange, trivial⟩ trivial (fun x => by kernel_rfl)
noncomputable def E_iArePaths : Entry := ⟨aV (rOne (rX .shr 4 pathR)), qV rB, fun (x : (List Path)) => S_iArePaths x⟩
theorem ok_iArePaths : Ok 74 E_iArePaths := mk Try.func74 (by kernel_rfl) [((87, 0), E_iIsPath)] [] [(81, pathR)] { lv := [(4, ⟨[0, 8, 9, 10], [], [], pV (rCo (rX .shr 4 pathR) (rCo (rX .shr 4 pathR) (rCo rI (rOne rI))))⟩)] } ⟨ok_iIsPath, trivial⟩ trivial (fun x => by kernel_rfl)
noncomputable def E_iFindPath_1 : Entry := ⟨aV (rCo (rAg pathR) (rOne (rRp iR))), qV rB, fun (x : (Path × Int)) => S_iFindPath_1 x.1 x.2⟩
theorem ok_iFindPath_1 : Ok 89 E_iFindPath_1 := mk Try.func89 (by kernel_rfl) [] [] [] {} trivial trivial (fun x => by kernel_rfl)
noncomputable def E_slices_IndexFunc_loop_example_g03006_impl_Path_loop_example_g03006_impl_Path : Entry := ⟨aV (rCo (rX .shr 4 pathR) (rOne (rFn 89 (rOne (rRp iR))))), qV rI, fun (x : ((List Path) × Int)) => S_slices_IndexFunc_loop_example_g03006_impl_Path_loop_example_g03006_impl_Path x.1 x.2⟩
theorem ok_slices_IndexFunc_loop_example_g03006_impl_Path_loop_example_g03006_impl_Path : Ok 88 E_slices_IndexFunc_loop_example_g03006_impl_Path_loop_example_g03006_impl_Path := mk Try.func88 (by kernel_rfl) [((89, 0), E_iFindPath_1)] [] [(81, pathR)] { lv := [(2, ⟨[0, 1, 7, 8], [], [], pV (rCo (rX .shr 4 pathR) (rCo (rFn 89 (rOne (rRp iR))) (rCo rI (rOne rI))))⟩)] } ⟨ok_iFindPath_1, trivial⟩ trivial (fun x => by kernel_rfl)
noncomputable def E_iFindPath : Entry := ⟨aV (rCo (rX .shr 4 pathR) (rOne rI)), qV rI, fun (x : ((List Path) × Int)) => S_iFindPath x.1 x.2⟩
theorem ok_iFindPath : Ok 75 E_iFindPath := mk Try.func75 (by kernel_rfl) [((88, 0), E_slices_IndexFunc_loop_example_g03006_impl_Path_loop_example_g03006_impl_Path)] [] [] {} ⟨ok_slices_IndexFunc_loop_example_g03006_impl_Path_loop_example_g03006_impl_Path, trivial⟩ trivial (fun x => by kernel_rfl)
noncomputable def E_iAreLamps : Entry := ⟨aV (rCo (rX .shr 4 pathR) (rOne (rX .shr 3 lampR))), qV rB, fun (x : ((List Path) × (List Lamp))) => S_iAreLamps x.1 x.2⟩
theorem ok_iAreLamps : Ok 63 E_iAreLamps := mk Try.func63 (by kernel_rfl) [((74, 0), E_iArePaths), ((75, 0), E_iFindPath)] [] [(91, lampR)] { lv := [(4, ⟨[0, 1, 12, 13, 14], [], [], pV (rCo (rX .shr 4 pathR) (rCo (rX .shr 3 lampR) (rCo (rX .shr 3 lampR) (rCo rI (rOne rI)))))⟩), (9, ⟨[0, 1, 12, 13, 14, 36, 37, 38], [(6, 6, false)], [(6, 3, false, false)], pVO (rCo (rX .shr 4 pathR) (rCo (rX .shr 3 lampR) (rCo (rX .shr 3 lampR) (rCo rI (rCo rI (rCo (rX .shr 3 lampR) (rCo rI (rOne rI)))))))) (oRow1 lampR)⟩)] } ⟨ok_iArePaths, ok_iFindPath, trivial⟩ trivial (fun x => by kernel_rfl)
noncomputable def E_iModeFor_1 : Entry := ⟨aV (rOne (rAg lampR)), qV rB, fun (x : Lamp) => S_iModeFor_1 x⟩
theorem ok_iModeFor_1 : Ok 65 E_iModeFor_1 := mk Try.func65 (by kernel_rfl) [] [] [] {} trivial trivial (fun x => by kernel_rfl)
noncomputable def E_slices_IndexFunc_loop_example_g03006_impl_Lamp_loop_example_g03006_impl_Lamp : Entry := ⟨aV (rCo (rX .shr 3 lampR) (rOne (rFn 65 rNil))), qV rI, fun (x : ((List Lamp) × Unit)) => S_slices_IndexFunc_loop_example_g03006_impl_Lamp_loop_example_g03006_impl_Lamp x.1⟩
theorem ok_slices_IndexFunc_loop_example_g03006_impl_Lamp_loop_example_g03006_impl_Lamp : Ok 76 E_slices_IndexFunc_loop_example_g03006_impl_Lamp_loop_example_g03006_impl_Lamp := mk Try.func76 (by kernel_rfl) [((65, 0), E_iModeFor_1)] [] [(91, lampR)] { lv := [(2, ⟨[0, 1, 7, 8], [], [], pV (rCo (rX .shr 3 lampR) (rCo (rFn 65 rNil) (rCo rI (rOne rI))))⟩)] } ⟨ok_iModeFor_1, trivial⟩ trivial (fun x => by kernel_rfl)
noncomputable def E_slices_ContainsFunc_loop_example_g03006_impl_Lamp_loop_example_g03006_impl_Lamp : Entry := ⟨aV (rCo (rX .shr 3 lampR) (rOne (rFn 65 rNil))), qV rB, fun (x : ((List Lamp) × Unit)) => S_slices_ContainsFunc_loop_example_g03006_impl_Lamp_loop_example_g03006_impl_Lamp x.1⟩
theorem ok_slices_ContainsFunc_loop_example_g03006_impl_Lamp_loop_example_g03006_impl_Lamp : Ok 64 E_slices_ContainsFunc_loop_example_g03006_impl_Lamp_loop_example_g03006_impl_Lamp := mk Try.func64 (by kernel_rfl) [((76, 0), E_slices_IndexFunc_loop_example_g03006_impl_Lamp_loop_example_g03006_impl_Lamp)] [] [] {} ⟨ok_slices_IndexFunc_loop_example_g03006_impl_Lamp_loop_example_g03006_impl_Lamp, trivial⟩ trivial (fun x => by kernel_rfl)
noncomputable def E_iModeFor : Entry := ⟨aV (rCo (rX .shr 4 pathR) (rCo (rX .shr 3 lampR) (rOne rB))), qV rI, fun (x : ((List Path) × (List Lamp) × Bool)) => S_iModeFor x.1 x.2.1 x.2.2⟩
theorem ok_iModeFor : Ok 53 E_iModeFor := mk Try.func53 (by kernel_rfl) [((63, 0), E_iAreLamps), ((64, 0), E_slices_ContainsFunc_loop_example_g03006_impl_Lamp_loop_example_g03006_impl_Lamp)] [] [] {} ⟨ok_iAreLamps, ok_slices_ContainsFunc_loop_example_g03006_impl_Lamp_loop_example_g03006_impl_Lamp, trivial⟩ trivial (fun x => by kernel_rfl)
noncomputable def E_iModeOf : Entry := ⟨aV (rOne (rAg (townR .shr .shr .shr .shr .shr .shr .shr))), qV rI, fun (x : Town) => S_iModeOf x⟩
theorem ok_iModeOf : Ok 28 E_iModeOf := mk Try.func28 (by kernel_rfl) [((53, 0), E_iModeFor)] [] [] {} ⟨ok_iModeFor, trivial⟩ trivial (fun x => by kernel_rfl)
noncomputable def E_iall : Entry := ⟨aV (rCo (rX .shr 4 pathR) (rOne rI)), qV (rX .own 1 iR), fun (x : ((List Path) × Int)) => S_iall x.1 x.2⟩
theorem ok_iall : Ok 29 E_iall := mk Try.func29 (by kernel_rfl) [] [] [] { tk := [(1, 1), (4, 0), (4, 3), (4, 4), (6, 0), (6, 1)], lv := [(3, ⟨[1, 5, 8, 9], [], [], pV (rCo rI (rCo (rX .own 1 iR) (rCo rI (rOne rI))))⟩)] } trivial trivial (fun x => by kernel_rfl)
noncomputable def E_iInPlace : Entry := ⟨aV (rOne rI), qV rI, fun (x : Int) => S_iInPlace x⟩
theorem ok_iInPlace : Ok 97 E_iInPlace := mk Try.func97 (by kernel_rfl) [((79, 0), E_iInRange)] [] [] {} ⟨ok_iInRange, trivial⟩ trivial (fun x => by kernel_rfl)
noncomputable def E_iOutPlace : Entry := ⟨aV (rOne rI), qV rI, fun (x : Int) => S_iOutPlace x⟩
theorem ok_iOutPlace : Ok 98 E_iOutPlace := mk Try.func98 (by kernel_rfl) [((79, 0), E_iInRange)] [] [] {} ⟨ok_iInRange, trivial⟩ trivial (fun x => by kernel_rfl)
noncomputable def E_iInterleave : Entry := ⟨aV (rCo rI (rCo rI (rCo rI (rOne rI)))), qV rB, fun (x : (Int × Int × Int × Int)) => S_iInterleave x.1 x.2.1 x.2.2.1 x.2.2.2⟩
theorem ok_iInterleave : Ok 96 E_iInterleave := mk Try.func96 (by kernel_rfl) [((79, 0), E_iInRange)] [] [(3, iR)] { lv := [(2, ⟨[0, 1, 2, 3, 16, 17, 18], [], [], pV (rCo rI (rCo rI (rCo rI (rCo rI (rCo (rX .own 1 iR) (rCo rI (rOne rI)))))))⟩)] } ⟨ok_iInRange, trivial⟩ trivial (fun x => by kernel_rfl)
noncomputable def E_iConflict : Entry := ⟨aV (rCo (rAg pathR) (rOne (rAg pathR))), qV rB, fun (x : (Path × Path)) => S_iConflict x.1 x.2⟩
theorem ok_iConflict : Ok 90 E_iConflict := mk Try.func90 (by kernel_rfl) [((87, 0), E_iIsPath), ((97, 0), E_iInPlace), ((98, 0), E_iOutPlace), ((96, 0), E_iInterleave)] [] [] {} ⟨ok_iIsPath, ok_iInPlace, ok_iOutPlace, ok_iInterleave, trivial⟩ trivial (fun x => by kernel_rfl)
noncomputable def E_iIsTogether : Entry := ⟨aV (rCo (rX .shr 4 pathR) (rOne (rX .shr 1 iR))), qV rB, fun (x : ((List Path) × (List Int))) => S_iIsTogether x.1 x.2⟩
theorem ok_iIsTogether : Ok 78 E_iIsTogether := mk Try.func78 (by kernel_rfl) [((74, 0), E_iArePaths), ((75, 0), E_iFindPath), ((90, 0), E_iConflict)] [] [(3, iR), (81, pathR)] { lv := [(4, ⟨[0, 1, 13, 14, 15], [], [], pV (rCo (rX .shr 4 pathR) (rCo (rX .shr 1 iR) (rCo (rX .shr 1 iR) (rCo rI (rOne rI)))))⟩), (10, ⟨[0, 1, 7, 13, 14, 15, 40, 41, 42], [], [], pV (rCo (rX .shr 4 pathR) (rCo (rX .shr 1 iR) (rCo rI (rCo (rX .shr 1 iR) (rCo rI (rCo rI (rCo (rX .shr 1 iR) (rCo rI (rOne rI)))))))))⟩)] } ⟨ok_iArePaths, ok_iFindPath, ok_iConflict, trivial⟩ trivial (fun x => by kernel_rfl)
noncomputable def E_slices_Index_int_int : Entry := ⟨aV (rCo (rX .shr 1 iR) (rOne rI)), qV rI, fun (x : ((List Int) × Int)) => S_slices_Index_int_int x.1 x.2⟩
theorem ok_slices_Index_int_int : Ok 81 E_slices_Index_int_int := mk Try.func81 (by kernel_rfl) [] [] [(3, iR)] { lv := [(2, ⟨[0, 1, 7, 8], [], [], pV (rCo (rX .shr 1 iR) (rCo rI (rCo rI (rOne rI))))⟩)] } trivial trivial (fun x => by kernel_rfl)
noncomputable def E_slices_Contains_int_int : Entry := ⟨aV (rCo (rX .shr 1 iR) (rOne rI)), qV rB, fun (x : ((List Int) × Int)) => S_slices_Contains_int_int x.1 x.2⟩
theorem ok_slices_Contains_int_int : Ok 68 E_slices_Contains_int_int := mk Try.func68 (by kernel_rfl) [((81, 0), E_slices_Index_int_int)] [] [] {} ⟨ok_slices_Index_int_int, trivial⟩ trivial (fun x => by kernel_rfl)
noncomputable def E_isieve : Entry := ⟨aV (rCo (rX .shr 1 iR) (rCo (rX .shr 1 iR) (rOne rB))), qV (rX .own 1 iR), fun (x : ((List Int) × (List Int) × Bool)) => S_isieve x.1 x.2.1 x.2.2⟩
theorem ok_isieve : Ok 99 E_isieve := mk Try.func99 (by kernel_rfl) [((68, 0), E_slices_Contains_int_int)] [] [(3, iR)] { tk := [(1, 1), (6, 0), (6, 3), (6, 4), (8, 0), (8, 1)], lv := [(3, ⟨[1, 2, 7, 11, 12, 13], [], [], pV (rCo (rX .shr 1 iR) (rCo rB (rCo (rX .own 1 iR) (rCo (rX .shr 1 iR) (rCo rI (rOne rI))))))⟩)] } ⟨ok_slices_Contains_int_int, trivial⟩ trivial (fun x => by kernel_rfl)
noncomputable def E_iCloses : Entry := ⟨aV (rCo (rX .shr 1 iR) (rOne (rX .shr 1 iR))), qV (rX .own 1 iR), fun (x : ((List Int) × (List Int))) => S_iCloses x.1 x.2⟩
theorem ok_iCloses : Ok 91 E_iCloses := mk Try.func91 (by kernel_rfl) [((99, 0), E_isieve)] [] [] { tk := [(1, 3)] } ⟨ok_isieve, trivial⟩ trivial (fun x => by kernel_rfl)
noncomputable def E_iClearOf : Entry := ⟨aV (rOne (rAg pathR)), qV rI, fun (x : Path) => S_iClearOf x⟩
theorem ok_iClearOf : Ok 92 E_iClearOf := mk Try.func92 (by kernel_rfl) [((87, 0), E_iIsPath)] [] [] {} ⟨ok_iIsPath, trivial⟩ trivial (fun x => by kernel_rfl)
noncomputable def E_iClearBetween : Entry := ⟨aV (rCo (rX .shr 4 pathR) (rCo (rX .shr 1 iR) (rOne (rX .shr 1 iR)))), qV rI, fun (x : ((List Path) × (List Int) × (List Int))) => S_iClearBetween x.1 x.2.1 x.2.2⟩
theorem ok_iClearBetween : Ok 80 E_iClearBetween := mk Try.func80 (by kernel_rfl) [((78, 0), E_iIsTogether), ((91, 0), E_iCloses), ((75, 0), E_iFindPath), ((90, 0), E_iConflict), ((92, 0), E_iClearOf)] [] [(3, iR), (81, pathR)] { lv := [(5, ⟨[0, 1, 2, 7, 26, 27, 28], [], [], pV (rCo (rX .shr 4 pathR) (rCo (rX .shr 1 iR) (rCo (rX .shr 1 iR) (rCo rI (rCo (rX .own 1 iR) (rCo rI (rOne rI)))))))⟩), (8, ⟨[0, 1, 2, 7, 9, 26, 27, 28, 34, 35, 36], [], [], pV (rCo (rX .shr 4 pathR) (rCo (rX .shr 1 iR) (rCo (rX .shr 1 iR) (rCo rI (rCo rI (rCo (rX .own 1 iR) (rCo rI (rCo rI (rCo (rX .own 1 iR) (rCo rI (rOne rI)))))))))))⟩)] } ⟨ok_iIsTogether, ok_iCloses, ok_iFindPath, ok_iConflict, ok_iClearOf, trivial⟩ trivial (fun x => by kernel_rfl)
noncomputable def E_iIsControl : Entry := ⟨aV (rCo (rX .shr 4 pathR) (rOne (rAg (controlR .shr .shr)))), qV rB, fun (x : ((List Path) × Control)) => S_iIsControl x.1 x.2⟩
theorem ok_iIsControl : Ok 67 E_iIsControl := mk Try.func67 (by kernel_rfl) [((78, 0), E_iIsTogether), ((79, 0), E_iInRange), ((80, 0), E_iClearBetween)] [] [] {} ⟨ok_iIsTogether, ok_iInRange, ok_iClearBetween, trivial⟩ trivial (fun x => by kernel_rfl)
noncomputable def E_iLightsOf : Entry := ⟨aV (rCo (rX .shr 4 pathR) (rOne (rAg (controlR .shr .shr)))), qV (rX .own 1 iR), fun (x : ((List Path) × Control)) => S_iLightsOf x.1 x.2⟩
theorem ok_iLightsOf : Ok 55 E_iLightsOf := mk Try.func55 (by kernel_rfl) [((67, 0), E_iIsControl), ((68, 0), E_slices_Contains_int_int)] [] [(81, pathR)] { tk := [(1, 1), (3, 0), (3, 1), (12, 0), (12, 3), (12, 4), (14, 0), (14, 1)], lv := [(5, ⟨[5, 15, 16, 17], [(3, 3, false)], [(3, 4, false, false)], pVO (rCo (rX .own 1 iR) (rCo (rX .shr 4 pathR) (rCo rI (rOne rI)))) (oRow1 (controlR .shr .shr))⟩)] } ⟨ok_iIsControl, ok_slices_Contains_int_int, trivial⟩ trivial (fun x => by kernel_rfl)
noncomputable def E_iLightsNow : Entry := ⟨aV (rOne (rAg (townR .shr .shr .shr .shr .shr .shr .shr))), qV (rX .own 1 iR), fun (x : Town) => S_iLightsNow x⟩
theorem ok_iLightsNow : Ok 31 E_iLightsNow := mk Try.func31 (by kernel_rfl) [((28, 0), E_iModeOf), ((29, 0), E_iall), ((55, 0), E_iLightsOf)] [] [] { tk := [(2, 3), (3, 5)] } ⟨ok_iModeOf, ok_iall, ok_iLightsOf, trivial⟩ trivial (fun x => by kernel_rfl)
noncomputable def E_slices_Index_loop_example_g03006_impl_Lamp_loop_example_g03006_impl_Lamp : Entry := ⟨aV (rCo (rX .shr 3 lampR) (rOne (rAg lampR))), qV rI, fun (x : ((List Lamp) × Lamp)) => S_slices_Index_loop_example_g03006_impl_Lamp_loop_example_g03006_impl_Lamp x.1 x.2⟩
theorem ok_slices_Index_loop_example_g03006_impl_Lamp_loop_example_g03006_impl_Lamp : Ok 77 E_slices_Index_loop_example_g03006_impl_Lamp_loop_example_g03006_impl_Lamp := mk Try.func77 (by kernel_rfl) [] [] [(91, lampR)] { lv := [(2, ⟨[0, 7, 8], [(3, 3, false)], [(3, 3, false, false)], pVO (rCo (rX .shr 3 lampR) (rCo rI (rOne rI))) (oRow1 lampR)⟩)] } trivial trivial (fun x => by kernel_rfl)
noncomputable def E_slices_Contains_loop_example_g03006_impl_Lamp_loop_example_g03006_impl_Lamp : Entry := ⟨aV (rCo (rX .shr 3 lampR) (rOne (rAg lampR))), qV rB, fun (x : ((List Lamp) × Lamp)) => S_slices_Contains_loop_example_g03006_impl_Lamp_loop_example_g03006_impl_Lamp x.1 x.2⟩
theorem ok_slices_Contains_loop_example_g03006_impl_Lamp_loop_example_g03006_impl_Lamp : Ok 66 E_slices_Contains_loop_example_g03006_impl_Lamp_loop_example_g03006_impl_Lamp := mk Try.func66 (by kernel_rfl) [((77, 0), E_slices_Index_loop_example_g03006_impl_Lamp_loop_example_g03006_impl_Lamp)] [] [] {} ⟨ok_slices_Index_loop_example_g03006_impl_Lamp_loop_example_g03006_impl_Lamp, trivial⟩ trivial (fun x => by kernel_rfl)
noncomputable def E_iIsBroken : Entry := ⟨aV (rCo (rX .shr 3 lampR) (rCo rI (rOne rI))), qV rB, fun (x : ((List Lamp) × Int × Int)) => S_iIsBroken x.1 x.2.1 x.2.2⟩
theorem ok_iIsBroken : Ok 54 E_iIsBroken := mk Try.func54 (by kernel_rfl) [((66, 0), E_slices_Contains_loop_example_g03006_impl_Lamp_loop_example_g03006_impl_Lamp)] [] [] {} ⟨ok_slices_Contains_loop_example_g03006_impl_Lamp_loop_example_g03006_impl_Lamp, trivial⟩ trivial (fun x => by kernel_rfl)
noncomputable def E_iVisible : Entry := ⟨aV (rCo (rX .shr 4 pathR) (rCo (rX .shr 3 lampR) (rOne (rX .shr 1 iR)))), qV (rX .own 1 iR), fun (x : ((List Path) × (List Lamp) × (List Int))) => S_iVisible x.1 x.2.1 x.2.2⟩
theorem ok_iVisible : Ok 30 E_iVisible := mk Try.func30 (by kernel_rfl) [((54, 0), E_iIsBroken)] [] [(3, iR), (81, pathR)] { tk := [(1, 1), (3, 0), (3, 1), (10, 0), (10, 3), (10, 4), (12, 0), (12, 1)], lv := [(5, ⟨[1, 2, 7, 18, 19, 20], [], [], pV (rCo (rX .shr 3 lampR) (rCo (rX .shr 1 iR) (rCo (rX .own 1 iR) (rCo (rX .shr 4 pathR) (rCo rI (rOne rI))))))⟩)] } ⟨ok_iIsBroken, trivial⟩ trivial (fun x => by kernel_rfl)
noncomputable def E_iSeenNow : Entry := ⟨aV (rOne (rAg (townR .shr .shr .shr .shr .shr .shr .shr))), qV (rX .own 1 iR), fun (x : Town) => S_iSeenNow x⟩
theorem ok_iSeenNow : Ok 7 E_iSeenNow := mk Try.func7 (by kernel_rfl) [((28, 0), E_iModeOf), ((29, 0), E_iall), ((31, 0), E_iLightsNow), ((30, 0), E_iVisible)] [] [] { tk := [(2, 3), (3, 7)] } ⟨ok_iModeOf, ok_iall, ok_iLightsNow, ok_iVisible, trivial⟩ trivial (fun x => by kernel_rfl)
noncomputable def E_leqIntS : Entry := ⟨aV (rCo (rX .shr 1 iR) (rOne (rX .shr 1 iR))), qV rB, fun (x : ((List Int) × (List Int))) => S_leqIntS x.1 x.2⟩
theorem ok_leqIntS : Ok 8 E_leqIntS := mk Try.func8 (by kernel_rfl) [] [] [(3, iR)] { lv := [(4, ⟨[0, 1, 5], [], [], pV (rCo (rX .shr 1 iR) (rCo (rX .shr 1 iR) (rOne rI)))⟩)] } trivial trivial (fun x => by kernel_rfl)
noncomputable def E_leqPath : Entry := ⟨aV (rCo (rAg pathR) (rOne (rAg pathR))), qV rB, fun (x : (Path × Path)) => S_leqPath x.1 x.2⟩
theorem ok_leqPath : Ok 56 E_leqPath := mk Try.func56 (by kernel_rfl) [] [] [] {} trivial trivial (fun x => by kernel_rfl)
noncomputable def E_leqPathS : Entry := ⟨aV (rCo (rX .shr 4 pathR) (rOne (rX .shr 4 pathR))), qV rB, fun (x : ((List Path) × (List Path))) => S_leqPathS x.1 x.2⟩
theorem ok_leqPathS : Ok 32 E_leqPathS := mk Try.func32 (by kernel_rfl) [((56, 0), E_leqPath)] [] [(81, pathR)] { lv := [(4, ⟨[0, 1, 5], [], [], pV (rCo (rX .shr 4 pathR) (rCo (rX .shr 4 pathR) (rOne rI)))⟩)] } ⟨ok_leqPath, trivial⟩ trivial (fun x => by kernel_rfl)
noncomputable def E_leqControl : Entry := ⟨aV (rCo (rAg (controlR .shr .shr)) (rOne (rAg (controlR .shr .shr)))), qV rB, fun (x : (Control × Control)) => S_leqControl x.1 x.2⟩
theorem ok_leqControl : Ok 33 E_leqControl := mk Try.func33 (by kernel_rfl) [((8, 0), E_leqIntS)] [] [] {} ⟨ok_leqIntS, trivial⟩ trivial (fun x => by kernel_rfl)
noncomputable def E_leqWant : Entry := ⟨aV (rCo (rAg wantR) (rOne (rAg wantR))), qV rB, fun (x : (Want × Want)) => S_leqWant x.1 x.2⟩
theorem ok_leqWant : Ok 57 E_leqWant := mk Try.func57 (by kernel_rfl) [] [] [] {} trivial trivial (fun x => by kernel_rfl)
noncomputable def E_leqWantS : Entry := ⟨aV (rCo (rX .shr 2 wantR) (rOne (rX .shr 2 wantR))), qV rB, fun (x : ((List Want) × (List Want))) => S_leqWantS x.1 x.2⟩
theorem ok_leqWantS : Ok 34 E_leqWantS := mk Try.func34 (by kernel_rfl) [((57, 0), E_leqWant)] [] [(87, wantR)] { lv := [(4, ⟨[0, 1, 5], [], [], pV (rCo (rX .shr 2 wantR) (rCo (rX .shr 2 wantR) (rOne rI)))⟩)] } ⟨ok_leqWant, trivial⟩ trivial (fun x => by kernel_rfl)
noncomputable def E_leqPrio : Entry := ⟨aV (rCo (rAg prioR) (rOne (rAg prioR))), qV rB, fun (x : (Prio × Prio)) => S_leqPrio x.1 x.2⟩
theorem ok_leqPrio : Ok 35 E_leqPrio := mk Try.func35 (by kernel_rfl) [] [] [] {} trivial trivial (fun x => by kernel_rfl)
noncomputable def E_leqLamp : Entry := ⟨aV (rCo (rAg lampR) (rOne (rAg lampR))), qV rB, fun (x : (Lamp × Lamp)) => S_leqLamp x.1 x.2⟩
theorem ok_leqLamp : Ok 58 E_leqLamp := mk Try.func58 (by kernel_rfl) [] [] [] {} trivial trivial (fun x => by kernel_rfl)
noncomputable def E_leqLampS : Entry := ⟨aV (rCo (rX .shr 3 lampR) (rOne (rX .shr 3 lampR))), qV rB, fun (x : ((List Lamp) × (List Lamp))) => S_leqLampS x.1 x.2⟩
theorem ok_leqLampS : Ok 36 E_leqLampS := mk Try.func36 (by kernel_rfl) [((58, 0), E_leqLamp)] [] [(91, lampR)] { lv := [(4, ⟨[0, 1, 5], [], [], pV (rCo (rX .shr 3 lampR) (rCo (rX .shr 3 lampR) (rOne rI)))⟩)] } ⟨ok_leqLamp, trivial⟩ trivial (fun x => by kernel_rfl)
noncomputable def E_leqEntry : Entry := ⟨aV (rCo (rAg (noteR .shr)) (rOne (rAg (noteR .shr)))), qV rB, fun (x : (Note × Note)) => S_leqEntry x.1 x.2⟩
theorem ok_leqEntry : Ok 59 E_leqEntry := mk Try.func59 (by kernel_rfl) [((8, 0), E_leqIntS)] [] [] {} ⟨ok_leqIntS, trivial⟩ trivial (fun x => by kernel_rfl)
noncomputable def E_leqEntryS : Entry := ⟨aV (rCo (rX .shr 3 (noteR .shr)) (rOne (rX .shr 3 (noteR .shr)))), qV rB, fun (x : ((List Note) × (List Note))) => S_leqEntryS x.1 x.2⟩
theorem ok_leqEntryS : Ok 37 E_leqEntryS := mk Try.func37 (by kernel_rfl) [((59, 0), E_leqEntry)] [] [(94, (noteR .shr))] { lv := [(4, ⟨[0, 1, 5], [], [], pV (rCo (rX .shr 3 (noteR .shr)) (rCo (rX .shr 3 (noteR .shr)) (rOne rI)))⟩)] } ⟨ok_leqEntry, trivial⟩ trivial (fun x => by kernel_rfl)
noncomputable def E_leqTown : Entry := ⟨aV (rCo (rAg (townR .shr .shr .shr .shr .shr .shr .shr)) (rOne (rAg (townR .shr .shr .shr .shr .shr .shr .shr)))), qV rB, fun (x : (Town × Town)) => S_leqTown x.1 x.2⟩
theorem ok_leqTown : Ok 9 E_leqTown := mk Try.func9 (by kernel_rfl) [((32, 0), E_leqPathS), ((33, 0), E_leqControl), ((34, 0), E_leqWantS), ((35, 0), E_leqPrio), ((36, 0), E_leqLampS), ((37, 0), E_leqEntryS)] [] [] {} ⟨ok_leqPathS, ok_leqControl, ok_leqWantS, ok_leqPrio, ok_leqLampS, ok_leqEntryS, trivial⟩ trivial (fun x => by kernel_rfl)
noncomputable def E_lmarkPathS : Entry := ⟨aV (rCo (rX .unq 4 pathR) (rOne rI)), qV (rTu (rCo rI (rOne (rX .unq 4 pathR)))), fun (x : ((List Path) × Int)) => S_lmarkPathS x.1 x.2⟩
theorem ok_lmarkPathS : OkU 38 E_lmarkPathS := mkU Try.func38 (by kernel_rfl) [] [] [] { ro := [(0, pathR)], lv := [(2, ⟨[1, 5], [(0, 0, true)], [(0, 4, true, false)], pVO (rCo rI (rOne rI)) (oArr1 pathR)⟩)] } trivial trivial (fun x => by kernel_rfl)
noncomputable def E_lmarkIntS : Entry := ⟨aV (rCo (rX .unq 1 iR) (rOne rI)), qV (rTu (rCo rI (rOne (rX .unq 1 iR)))), fun (x : ((List Int) × Int)) => S_lmarkIntS x.1 x.2⟩
theorem ok_lmarkIntS : OkU 11 E_lmarkIntS := mkU Try.func11 (by kernel_rfl) [] [] [] { ro := [(0, iR)], lv := [(2, ⟨[1, 5], [(0, 0, true)], [(0, 1, true, false)], pVO (rCo rI (rOne rI)) (oArr1 iR)⟩)] } trivial trivial (fun x => by kernel_rfl)
noncomputable def E_lmarkControl : Entry := ⟨aV (rCo (rAg (controlR .unq .unq)) (rOne rI)), qV (rTu (rCo rI (rOne (rAg (controlR .unq .unq))))), fun (x : (Control × Int)) => S_lmarkControl x.1 x.2⟩
theorem ok_lmarkControl : OkU 39 E_lmarkControl := mkU Try.func39 (by kernel_rfl) [] [((11, 0), E_lmarkIntS)] [] { hb := [((0, 0), 1), ((1, 1), 1), ((1, 3), 3), ((2, 1), 1), ((2, 3), 3)] } trivial ⟨ok_lmarkIntS, trivial⟩ (fun x => by kernel_rfl)
noncomputable def E_lmarkWantS : Entry := ⟨aV (rCo (rX .unq 2 wantR) (rOne rI)), qV (rTu (rCo rI (rOne (rX .unq 2 wantR)))), fun (x : ((List Want) × Int)) => S_lmarkWantS x.1 x.2⟩
theorem ok_lmarkWantS : OkU 40 E_lmarkWantS := mkU Try.func40 (by kernel_rfl) [] [] [] { ro := [(0, wantR)], lv := [(2, ⟨[1, 5], [(0, 0, true)], [(0, 2, true, false)], pVO (rCo rI (rOne rI)) (oArr1 wantR)⟩)] } trivial trivial (fun x => by kernel_rfl)
noncomputable def E_lmarkLampS : Entry := ⟨aV (rCo (rX .unq 3 lampR) (rOne rI)), qV (rTu (rCo rI (rOne (rX .unq 3 lampR)))), fun (x : ((List Lamp) × Int)) => S_lmarkLampS x.1 x.2⟩
theorem ok_lmarkLampS : OkU 41 E_lmarkLampS := mkU Try.func41 (by kernel_rfl) [] [] [] { ro := [(0, lampR)], lv := [(2, ⟨[1, 5], [(0, 0, true)], [(0, 3, true, false)], pVO (rCo rI (rOne rI)) (oArr1 lampR)⟩)] } trivial trivial (fun x => by kernel_rfl)
noncomputable def E_lmarkEntryS : Entry := ⟨aV (rCo (rX .unq 3 (noteR .unq)) (rOne rI)), qV (rTu (rCo rI (rOne (rX .unq 3 (noteR .unq))))), fun (x : ((List Note) × Int)) => S_lmarkEntryS x.1 x.2⟩
theorem ok_lmarkEntryS : OkU 42 E_lmarkEntryS := mkU Try.func42 (by kernel_rfl) [] [((11, 0), E_lmarkIntS)] [] { hb := [((6, 4), 1), ((6, 6), 3)], ro := [(0, (noteR .unq))], lv := [(2, ⟨[1, 5], [(0, 0, true)], [(0, 3, true, false)], pVO (rCo rI (rOne rI)) (oArr1 (noteR .unq))⟩)] } trivial ⟨ok_lmarkIntS, trivial⟩ (fun x => by kernel_rfl)
noncomputable def E_lmarkTown : Entry := ⟨aV (rCo (rAg (townR .unq .unq .unq .unq .unq .unq .unq)) (rOne rI)), qV (rTu (rCo rI (rOne (rAg (townR .unq .unq .unq .unq .unq .unq .unq))))), fun (x : (Town × Int)) => S_lmarkTown x.1 x.2⟩
theorem ok_lmarkTown : OkU 10 E_lmarkTown := mkU Try.func10 (by kernel_rfl) [] [((38, 0), E_lmarkPathS), ((39, 0), E_lmarkControl), ((40, 0), E_lmarkWantS), ((41, 0), E_lmarkLampS), ((42, 0), E_lmarkEntryS)] [] { hb := [((0, 0), 1), ((1, 1), 1), ((1, 3), 3), ((2, 1), 1), ((2, 3), 3), ((3, 1), 1), ((3, 3), 3), ((4, 1), 1), ((4, 3), 3), ((5, 1), 1), ((5, 3), 3)] } trivial ⟨ok_lmarkPathS, ok_lmarkControl, ok_lmarkWantS, ok_lmarkLampS, ok_lmarkEntryS, trivial⟩ (fun x => by kernel_rfl)
noncomputable def E_lheldIntS : Entry := ⟨aV (rCo (rX .shr 1 iR) (rOne rI)), qV rI, fun (x : ((List Int) × Int)) => S_lheldIntS x.1 x.2⟩
theorem ok_lheldIntS : Ok 12 E_lheldIntS := mk Try.func12 (by kernel_rfl) [] [] [(3, iR)] { lv := [(2, ⟨[0, 1, 5], [], [], pV (rCo (rX .shr 1 iR) (rCo rI (rOne rI)))⟩)] } trivial trivial (fun x => by kernel_rfl)
noncomputable def E_lFnExactSeenNow : Entry := ⟨aV (rOne (rAg (townR .shr .shr .shr .shr .shr .shr .shr))), qV rB, fun (x : Town) => S_lFnExactSeenNow x⟩
theorem ok_lFnExactSeenNow : Ok 3 E_lFnExactSeenNow := mk Try.func3 (by kernel_rfl) [((4, 0), E_lszTown), ((6, 0), E_ltoTown), ((5, 0), E_sSeenNow), ((7, 0), E_iSeenNow), ((8, 0), E_leqIntS), ((9, 0), E_leqTown), ((12, 0), E_lheldIntS)] [((10, 0), E_lmarkTown), ((11, 0), E_lmarkIntS)] [] { tk := [(5, 3), (6, 3), (25, 1)], hb := [((6, 1), 2), ((7, 0), 1), ((7, 1), 2), ((8, 2), 2), ((10, 0), 1), ((10, 3), 2), ((13, 0), 1), ((13, 2), 3), ((14, 5), 2), ((17, 2), 3), ((19, 2), 2), ((24, 2), 2), ((25, 2), 2), ((28, 2), 2)], th := [(7, 1), (24, 2)], rt := [((6, 1), (rAg (townR .unq .unq .unq .unq .unq .unq .unq))), ((7, 1), (rX .unq 1 iR)), ((24, 2), (rX .unq 1 iR))] } ⟨ok_lszTown, ok_ltoTown, ok_sSeenNow, ok_iSeenNow, ok_leqIntS, ok_leqTown, ok_lheldIntS, trivial⟩ ⟨ok_lmarkTown, ok_lmarkIntS, trivial⟩ (fun x => by kernel_rfl)
end Go.Proofs.Ytabjaeobdmahlaa
