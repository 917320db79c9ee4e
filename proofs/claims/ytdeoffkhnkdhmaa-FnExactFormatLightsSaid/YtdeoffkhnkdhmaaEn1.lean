/- Part of the proof: see the last text of the claim. -/
import Derived.Test.YtdeoffkhnkdhmaaSh1
import Derived.KernelRfl
import Derived.Test.YtdeoffkhnkdhmaaRows
set_option linter.all false
namespace Go.Proofs.Ytdeoffkhnkdhmaa
open Go.Fx Go.Sh
set_option maxRecDepth 100000
def emS : Value := .string ⟨#[]⟩
def tab : List (Nat × TD) := [(3, .sc (.int .i64 0)),
  (4, .sc (.bool false)),
  (9, .sc emS),
  (25, .st [(none, .int .i64 0), (none, .int .i64 0), (none, .int .i64 0), (none, .int .i64 0), (none, .int .i64 0)] [(0, 1), (1, 1), (2, 1), (3, 1), (4, 1)]),
  (27, .st [(none, .int .i64 0), (none, .int .i64 0), (none, .int .i64 0), (none, .int .i64 0), (none, .int .i64 0)] [(0, 1), (1, 1), (2, 1), (3, 1), (4, 1)]),
  (30, .sl 86 2),
  (33, .sl 84 2),
  (37, .sl 91 3),
  (40, .sl 89 3),
  (44, .sl 96 4),
  (47, .sl 94 4),
  (51, .sl 101 4),
  (54, .sl 99 4),
  (58, .sl 25 5),
  (61, .sl 27 5),
  (67, .sl 3 1),
  (73, .sl 108 3),
  (76, .sl 110 3),
  (81, .sl 9 1),
  (82, .ar 6 1 [(none, emS), (none, emS), (none, emS), (none, emS), (none, emS), (none, emS)]),
  (84, .st [(none, .int .i64 0), (none, .int .i64 0)] [(0, 1), (1, 1)]),
  (86, .st [(none, .int .i64 0), (none, .int .i64 0)] [(0, 1), (1, 1)]),
  (89, .st [(none, .int .i64 0), (none, .int .i64 0), (none, .bool false)] [(0, 1), (1, 1), (2, 1)]),
  (91, .st [(none, .int .i64 0), (none, .int .i64 0), (none, .bool false)] [(0, 1), (1, 1), (2, 1)]),
  (94, .st [(none, .int .i64 0), (none, .int .i64 0), (none, .int .i64 0), (none, .bool false)] [(0, 1), (1, 1), (2, 1), (3, 1)]),
  (96, .st [(none, .int .i64 0), (none, .int .i64 0), (none, .int .i64 0), (none, .bool false)] [(0, 1), (1, 1), (2, 1), (3, 1)]),
  (99, .st [(none, .int .i64 0), (none, .int .i64 0), (none, .int .i64 0), (none, .int .i64 0)] [(0, 1), (1, 1), (2, 1), (3, 1)]),
  (101, .st [(none, .int .i64 0), (none, .int .i64 0), (none, .int .i64 0), (none, .int .i64 0)] [(0, 1), (1, 1), (2, 1), (3, 1)]),
  (108, .st [(none, .int .i64 0), (some 1, .slice none 0 0), (none, .int .i64 0)] [(0, 1), (1, 1), (2, 1)]),
  (110, .st [(none, .int .i64 0), (some 1, .slice none 0 0), (none, .int .i64 0)] [(0, 1), (1, 1), (2, 1)])]
theorem tab_ok : TOk Try.prog (tabT tab) := tabT_ok (by kernel_rfl)
theorem mixed : Try.prog.follows .mixedOrders = true := by kernel_rfl
abbrev Ok (f : Nat) (en : Entry) : Prop := EntryOk Try.prog 0 (fun _ => none) f en
theorem mk {f : Nat} {fn : Func} {en : Entry} (hfn : Try.prog.funcs[f]? = some fn) (hname : (fn.name == "runtime.NumGoroutine") = false) (cs : List ((Nat × Nat) × Entry)) (R : List (Nat × RR)) (h : Hints) (hcs : AllOk Try.prog 0 (fun _ => none) cs)
    (hL : ∀ x, evalBody (ctxOf (tabT tab) cs (fun _ => false) R h fn.ntmps NN) fn en.rs (en.ps.enc x).1 (en.ps.enc x).2 = en.S x) : Ok f en := fn_ok tab_ok mixed hfn hname hcs hL
def laysJoin_ren : Go.Shelf.Ren := ⟨fun | 156 => 92 | 165 => 96 | 166 => 97 | 169 => 98 | 240 => 101 | 241 => 102 | 276 => 105 | 277 => 106 | n => n, fun | 31 => 81 | 9 => 9 | 3 => 3 | 4 => 4 | 0 => 0 | 20 => 20 | 72 => 122 | 76 => 126 | 70 => 119 | 37 => 120 | 75 => 125 | 127 => 130 | 164 => 131 | 5 => 5 | 80 => 128 | n => n, fun n => n⟩
theorem laysJoin : Go.Proofs.Lays.n156 Try.prog laysJoin_ren where
  mixed := by kernel_rfl
  f156 := Try.func92.trans (congrArg some (by kernel_rfl))
  f165 := Try.func96.trans (congrArg some (by kernel_rfl))
  f166 := Try.func97.trans (congrArg some (by kernel_rfl))
  f169 := Try.func98.trans (congrArg some (by kernel_rfl))
  f240 := Try.func101.trans (congrArg some (by kernel_rfl))
  f241 := Try.func102.trans (congrArg some (by kernel_rfl))
  f276 := Try.func105.trans (congrArg some (by kernel_rfl))
  f277 := Try.func106.trans (congrArg some (by kernel_rfl))
  t0 := Try.underlying0
  a0 := Try.isAgg0
  z0 := Try.sizeOf0
  v0 := Try.zeroValue0
  t3 := Try.underlying3
  a3 := Try.isAgg3
  z3 := Try.sizeOf3
  v3 := Try.zeroValue3
  t4 := Try.underlying4
  a4 := Try.isAgg4
  z4 := Try.sizeOf4
  v4 := Try.zeroValue4
  t9 := Try.underlying9
  a9 := Try.isAgg9
  z9 := Try.sizeOf9
  v9 := Try.zeroValue9
  t20 := Try.underlying20
  a20 := Try.isAgg20
  z20 := Try.sizeOf20
  v20 := Try.zeroValue20
  t31 := Try.underlying81
  a31 := Try.isAgg81
  z31 := Try.sizeOf81
  v31 := Try.zeroValue81
  t37 := Try.underlying120
  a37 := Try.isAgg120
  z37 := Try.sizeOf120
  v37 := Try.zeroValue120
  t70 := Try.underlying119
  a70 := Try.isAgg119
  z70 := Try.sizeOf119
  v70 := Try.zeroValue119
  t72 := Try.underlying122
  a72 := Try.isAgg122
  z72 := Try.sizeOf122
  v72 := Try.zeroValue122
  t75 := Try.underlying125
  a75 := Try.isAgg125
  z75 := Try.sizeOf125
  v75 := Try.zeroValue125
  t76 := Try.underlying126
  a76 := Try.isAgg126
  z76 := Try.sizeOf126
  v76 := Try.zeroValue126
  t127 := Try.underlying130
  a127 := Try.isAgg130
  z127 := Try.sizeOf130
  v127 := Try.zeroValue130
  t164 := Try.underlying131
  a164 := Try.isAgg131
  z164 := Try.sizeOf131
  v164 := Try.zeroValue131
theorem laysJoinX : Go.Proofs.Builder.Extra Try.prog laysJoin_ren where
  sizeBuilder := by kernel_rfl
  liesBuilder := by kernel_rfl
  t5 := Try.underlying5
  a5 := Try.isAgg5
  z5 := Try.sizeOf5
  v5 := Try.zeroValue5
  infoByte := by kernel_rfl
  cellsByte := by kernel_rfl
  sizeByte := by kernel_rfl
  neB5 := by decide
noncomputable def E_strings_Join : Entry := ⟨aV (rCo (rX .shr 1 sR) (rOne rS)), qV rS, fun (x : ((List ByteArray) × ByteArray)) => S_strings_Join x.1 x.2⟩
theorem ok_strings_Join : Ok 92 E_strings_Join := strings_Join_ok laysJoin laysJoinX rfl Try.func92 (by kernel_rfl) (by kernel_rfl)
noncomputable def E_sl1In : Entry := ⟨aV (rCo rI (rCo rI (rOne rI))), qV rB, fun (x : (Int × Int × Int)) => S_sl1In x.1 x.2.1 x.2.2⟩
theorem ok_sl1In : Ok 63 E_sl1In := mk Try.func63 (by kernel_rfl) [] [] {} trivial (fun x => by kernel_rfl)
noncomputable def E_sEventName : Entry := ⟨aV (rOne rI), qV rS, fun (x : Int) => S_sEventName x⟩
theorem ok_sEventName : Ok 15 E_sEventName := mk Try.func15 (by kernel_rfl) [((63, 0), E_sl1In)] [(9, sR)] {} ⟨ok_sl1In, trivial⟩ (fun x => by kernel_rfl)
noncomputable def E_iEventName : Entry := ⟨aV (rOne rI), qV rS, fun (x : Int) => S_iEventName x⟩
theorem ok_iEventName : Ok 16 E_iEventName := mk Try.func16 (by kernel_rfl) [] [] { rt := [((4, 3), rS)] } trivial (fun x => by kernel_rfl)
noncomputable def E_lFnExactEventName : Entry := ⟨aV (rOne rI), qV rB, fun (x : Int) => S_lFnExactEventName x⟩
theorem ok_lFnExactEventName : Ok 3 E_lFnExactEventName := mk Try.func3 (by kernel_rfl) [((15, 0), E_sEventName), ((16, 0), E_iEventName)] [] {} ⟨ok_sEventName, ok_iEventName, trivial⟩ (fun x => by kernel_rfl)
noncomputable def E_ltoReport : Entry := ⟨aV (rOne (rAg reportR)), qV (rAg reportR), fun (x : Report) => S_ltoReport x⟩
theorem ok_ltoReport : Ok 18 E_ltoReport := mk Try.func18 (by kernel_rfl) [] [] {} trivial (fun x => by kernel_rfl)
noncomputable def E_sVerdict : Entry := ⟨aV (rCo (rAg reportR) (rOne (rAg reportR))), qV rS, fun (x : (Report × Report)) => S_sVerdict x.1 x.2⟩
theorem ok_sVerdict : Ok 17 E_sVerdict := mk Try.func17 (by kernel_rfl) [((63, 0), E_sl1In)] [] {} ⟨ok_sl1In, trivial⟩ (fun x => by kernel_rfl)
noncomputable def E_iInRange : Entry := ⟨aV (rCo rI (rCo rI (rOne rI))), qV rB, fun (x : (Int × Int × Int)) => S_iInRange x.1 x.2.1 x.2.2⟩
theorem ok_iInRange : Ok 64 E_iInRange := mk Try.func64 (by kernel_rfl) [] [] {} trivial (fun x => by kernel_rfl)
noncomputable def E_iVerdict : Entry := ⟨aV (rCo (rAg reportR) (rOne (rAg reportR))), qV rS, fun (x : (Report × Report)) => S_iVerdict x.1 x.2⟩
theorem ok_iVerdict : Ok 19 E_iVerdict := mk Try.func19 (by kernel_rfl) [((64, 0), E_iInRange)] [] {} ⟨ok_iInRange, trivial⟩ (fun x => by kernel_rfl)
noncomputable def E_lFnExactVerdict : Entry := ⟨aV (rCo (rAg reportR) (rOne (rAg reportR))), qV rB, fun (x : (Report × Report)) => S_lFnExactVerdict x.1 x.2⟩
theorem ok_lFnExactVerdict : Ok 4 E_lFnExactVerdict := mk Try.func4 (by kernel_rfl) [((18, 0), E_ltoReport), ((17, 0), E_sVerdict), ((19, 0), E_iVerdict)] [] {} ⟨ok_ltoReport, ok_sVerdict, ok_iVerdict, trivial⟩ (fun x => by kernel_rfl)
noncomputable def E_lszWantS : Entry := ⟨aV (rCo (rX .shr 2 wantR) (rOne rI)), qV rI, fun (x : ((List Want) × Int)) => S_lszWantS x.1 x.2⟩
theorem ok_lszWantS : Ok 20 E_lszWantS := mk Try.func20 (by kernel_rfl) [] [] {} trivial (fun x => by kernel_rfl)
noncomputable def E_ltoWant : Entry := ⟨aV (rOne (rAg wantR)), qV (rAg wantR), fun (x : Want) => S_ltoWant x⟩
theorem ok_ltoWant : Ok 65 E_ltoWant := mk Try.func65 (by kernel_rfl) [] [] {} trivial (fun x => by kernel_rfl)
noncomputable def E_ltoWantS : Entry := ⟨aV (rOne (rX .shr 2 wantR)), qV (rX .own 2 wantR), fun (x : (List Want)) => S_ltoWantS x⟩
theorem ok_ltoWantS : Ok 22 E_ltoWantS := mk Try.func22 (by kernel_rfl) [((65, 0), E_ltoWant)] [(86, wantR)] { ro := [(7, wantR)], lv := [(3, ⟨[0, 4], [(3, 7, true)], [(7, 2, true, false)], pVO (rCo (rX .shr 2 wantR) (rOne rI)) (oArr1 wantR)⟩)] } ⟨ok_ltoWant, trivial⟩ (fun x => by kernel_rfl)
noncomputable def E_sLongestWait : Entry := ⟨aV (rOne (rX .shr 2 wantR)), qV rI, fun (x : (List Want)) => S_sLongestWait x⟩
theorem ok_sLongestWait : Ok 21 E_sLongestWait := mk Try.func21 (by kernel_rfl) [] [(84, wantR)] { lv := [(3, ⟨[0, 3, 4], [], [], pV (rCo (rX .shr 2 wantR) (rCo rI (rOne rI)))⟩)] } trivial (fun x => by kernel_rfl)
noncomputable def E_iLongestWait : Entry := ⟨aV (rOne (rX .shr 2 wantR)), qV rI, fun (x : (List Want)) => S_iLongestWait x⟩
theorem ok_iLongestWait : Ok 23 E_iLongestWait := mk Try.func23 (by kernel_rfl) [] [(84, wantR)] { lv := [(5, ⟨[3, 13, 14, 15], [], [], pV (rCo rI (rCo (rX .shr 2 wantR) (rCo rI (rOne rI))))⟩)] } trivial (fun x => by kernel_rfl)
noncomputable def E_leqWant : Entry := ⟨aV (rCo (rAg wantR) (rOne (rAg wantR))), qV rB, fun (x : (Want × Want)) => S_leqWant x.1 x.2⟩
theorem ok_leqWant : Ok 66 E_leqWant := mk Try.func66 (by kernel_rfl) [] [] {} trivial (fun x => by kernel_rfl)
noncomputable def E_leqWantS : Entry := ⟨aV (rCo (rX .shr 2 wantR) (rOne (rX .shr 2 wantR))), qV rB, fun (x : ((List Want) × (List Want))) => S_leqWantS x.1 x.2⟩
theorem ok_leqWantS : Ok 24 E_leqWantS := mk Try.func24 (by kernel_rfl) [((66, 0), E_leqWant)] [(84, wantR)] { lv := [(4, ⟨[0, 1, 5], [], [], pV (rCo (rX .shr 2 wantR) (rCo (rX .shr 2 wantR) (rOne rI)))⟩)] } ⟨ok_leqWant, trivial⟩ (fun x => by kernel_rfl)
noncomputable def E_lFnExactLongestWait : Entry := ⟨aV (rOne (rX .shr 2 wantR)), qV rB, fun (x : (List Want)) => S_lFnExactLongestWait x⟩
theorem ok_lFnExactLongestWait : Ok 5 E_lFnExactLongestWait := mk Try.func5 (by kernel_rfl) [((20, 0), E_lszWantS), ((22, 0), E_ltoWantS), ((21, 0), E_sLongestWait), ((23, 0), E_iLongestWait), ((24, 0), E_leqWantS)] [] { tk := [(6, 2), (10, 0)] } ⟨ok_lszWantS, ok_ltoWantS, ok_sLongestWait, ok_iLongestWait, ok_leqWantS, trivial⟩ (fun x => by kernel_rfl)
noncomputable def E_lszLampS : Entry := ⟨aV (rCo (rX .shr 3 lampR) (rOne rI)), qV rI, fun (x : ((List Lamp) × Int)) => S_lszLampS x.1 x.2⟩
theorem ok_lszLampS : Ok 25 E_lszLampS := mk Try.func25 (by kernel_rfl) [] [] {} trivial (fun x => by kernel_rfl)
noncomputable def E_ltoLamp : Entry := ⟨aV (rOne (rAg lampR)), qV (rAg lampR), fun (x : Lamp) => S_ltoLamp x⟩
theorem ok_ltoLamp : Ok 67 E_ltoLamp := mk Try.func67 (by kernel_rfl) [] [] {} trivial (fun x => by kernel_rfl)
noncomputable def E_ltoLampS : Entry := ⟨aV (rOne (rX .shr 3 lampR)), qV (rX .own 3 lampR), fun (x : (List Lamp)) => S_ltoLampS x⟩
theorem ok_ltoLampS : Ok 27 E_ltoLampS := mk Try.func27 (by kernel_rfl) [((67, 0), E_ltoLamp)] [(91, lampR)] { ro := [(7, lampR)], lv := [(3, ⟨[0, 4], [(3, 7, true)], [(7, 3, true, false)], pVO (rCo (rX .shr 3 lampR) (rOne rI)) (oArr1 lampR)⟩)] } ⟨ok_ltoLamp, trivial⟩ (fun x => by kernel_rfl)
noncomputable def E_sCountBroken : Entry := ⟨aV (rOne (rX .shr 3 lampR)), qV rI, fun (x : (List Lamp)) => S_sCountBroken x⟩
theorem ok_sCountBroken : Ok 26 E_sCountBroken := mk Try.func26 (by kernel_rfl) [] [(89, lampR)] { lv := [(3, ⟨[0, 3, 4], [], [], pV (rCo (rX .shr 3 lampR) (rCo rI (rOne rI)))⟩)] } trivial (fun x => by kernel_rfl)
noncomputable def E_iCountBroken : Entry := ⟨aV (rOne (rX .shr 3 lampR)), qV rI, fun (x : (List Lamp)) => S_iCountBroken x⟩
theorem ok_iCountBroken : Ok 28 E_iCountBroken := mk Try.func28 (by kernel_rfl) [] [(89, lampR)] { lv := [(3, ⟨[3, 6, 7, 8], [], [], pV (rCo rI (rCo (rX .shr 3 lampR) (rCo rI (rOne rI))))⟩)] } trivial (fun x => by kernel_rfl)
noncomputable def E_leqLamp : Entry := ⟨aV (rCo (rAg lampR) (rOne (rAg lampR))), qV rB, fun (x : (Lamp × Lamp)) => S_leqLamp x.1 x.2⟩
theorem ok_leqLamp : Ok 68 E_leqLamp := mk Try.func68 (by kernel_rfl) [] [] {} trivial (fun x => by kernel_rfl)
noncomputable def E_leqLampS : Entry := ⟨aV (rCo (rX .shr 3 lampR) (rOne (rX .shr 3 lampR))), qV rB, fun (x : ((List Lamp) × (List Lamp))) => S_leqLampS x.1 x.2⟩
theorem ok_leqLampS : Ok 29 E_leqLampS := mk Try.func29 (by kernel_rfl) [((68, 0), E_leqLamp)] [(89, lampR)] { lv := [(4, ⟨[0, 1, 5], [], [], pV (rCo (rX .shr 3 lampR) (rCo (rX .shr 3 lampR) (rOne rI)))⟩)] } ⟨ok_leqLamp, trivial⟩ (fun x => by kernel_rfl)
noncomputable def E_lFnExactCountBroken : Entry := ⟨aV (rOne (rX .shr 3 lampR)), qV rB, fun (x : (List Lamp)) => S_lFnExactCountBroken x⟩
theorem ok_lFnExactCountBroken : Ok 6 E_lFnExactCountBroken := mk Try.func6 (by kernel_rfl) [((25, 0), E_lszLampS), ((27, 0), E_ltoLampS), ((26, 0), E_sCountBroken), ((28, 0), E_iCountBroken), ((29, 0), E_leqLampS)] [] { tk := [(6, 2), (10, 0)] } ⟨ok_lszLampS, ok_ltoLampS, ok_sCountBroken, ok_iCountBroken, ok_leqLampS, trivial⟩ (fun x => by kernel_rfl)
noncomputable def E_lszEventS : Entry := ⟨aV (rCo (rX .shr 4 evtR) (rOne rI)), qV rI, fun (x : ((List Evt) × Int)) => S_lszEventS x.1 x.2⟩
theorem ok_lszEventS : Ok 30 E_lszEventS := mk Try.func30 (by kernel_rfl) [] [] {} trivial (fun x => by kernel_rfl)
noncomputable def E_ltoEvent : Entry := ⟨aV (rOne (rAg evtR)), qV (rAg evtR), fun (x : Evt) => S_ltoEvent x⟩
theorem ok_ltoEvent : Ok 69 E_ltoEvent := mk Try.func69 (by kernel_rfl) [] [] {} trivial (fun x => by kernel_rfl)
noncomputable def E_ltoEventS : Entry := ⟨aV (rOne (rX .shr 4 evtR)), qV (rX .own 4 evtR), fun (x : (List Evt)) => S_ltoEventS x⟩
theorem ok_ltoEventS : Ok 32 E_ltoEventS := mk Try.func32 (by kernel_rfl) [((69, 0), E_ltoEvent)] [(96, evtR)] { ro := [(7, evtR)], lv := [(3, ⟨[0, 4], [(3, 7, true)], [(7, 4, true, false)], pVO (rCo (rX .shr 4 evtR) (rOne rI)) (oArr1 evtR)⟩)] } ⟨ok_ltoEvent, trivial⟩ (fun x => by kernel_rfl)
noncomputable def E_sCountEvents : Entry := ⟨aV (rCo (rX .shr 4 evtR) (rOne rI)), qV rI, fun (x : ((List Evt) × Int)) => S_sCountEvents x.1 x.2⟩
theorem ok_sCountEvents : Ok 31 E_sCountEvents := mk Try.func31 (by kernel_rfl) [] [(94, evtR)] { lv := [(3, ⟨[0, 1, 5, 6], [], [], pV (rCo (rX .shr 4 evtR) (rCo rI (rCo rI (rOne rI))))⟩)] } trivial (fun x => by kernel_rfl)
noncomputable def E_iCountEvents : Entry := ⟨aV (rCo (rX .shr 4 evtR) (rOne rI)), qV rI, fun (x : ((List Evt) × Int)) => S_iCountEvents x.1 x.2⟩
theorem ok_iCountEvents : Ok 33 E_iCountEvents := mk Try.func33 (by kernel_rfl) [] [(94, evtR)] { lv := [(3, ⟨[1, 5, 8, 9, 10], [], [], pV (rCo rI (rCo rI (rCo (rX .shr 4 evtR) (rCo rI (rOne rI)))))⟩)] } trivial (fun x => by kernel_rfl)
noncomputable def E_leqEvent : Entry := ⟨aV (rCo (rAg evtR) (rOne (rAg evtR))), qV rB, fun (x : (Evt × Evt)) => S_leqEvent x.1 x.2⟩
theorem ok_leqEvent : Ok 70 E_leqEvent := mk Try.func70 (by kernel_rfl) [] [] {} trivial (fun x => by kernel_rfl)
noncomputable def E_leqEventS : Entry := ⟨aV (rCo (rX .shr 4 evtR) (rOne (rX .shr 4 evtR))), qV rB, fun (x : ((List Evt) × (List Evt))) => S_leqEventS x.1 x.2⟩
theorem ok_leqEventS : Ok 34 E_leqEventS := mk Try.func34 (by kernel_rfl) [((70, 0), E_leqEvent)] [(94, evtR)] { lv := [(4, ⟨[0, 1, 5], [], [], pV (rCo (rX .shr 4 evtR) (rCo (rX .shr 4 evtR) (rOne rI)))⟩)] } ⟨ok_leqEvent, trivial⟩ (fun x => by kernel_rfl)
noncomputable def E_lFnExactCountEvents : Entry := ⟨aV (rCo (rX .shr 4 evtR) (rOne rI)), qV rB, fun (x : ((List Evt) × Int)) => S_lFnExactCountEvents x.1 x.2⟩
theorem ok_lFnExactCountEvents : Ok 7 E_lFnExactCountEvents := mk Try.func7 (by kernel_rfl) [((30, 0), E_lszEventS), ((32, 0), E_ltoEventS), ((31, 0), E_sCountEvents), ((33, 0), E_iCountEvents), ((34, 0), E_leqEventS)] [] { tk := [(6, 2), (10, 0)] } ⟨ok_lszEventS, ok_ltoEventS, ok_sCountEvents, ok_iCountEvents, ok_leqEventS, trivial⟩ (fun x => by kernel_rfl)
noncomputable def E_lszPathS : Entry := ⟨aV (rCo (rX .shr 4 pathR) (rOne rI)), qV rI, fun (x : ((List Path) × Int)) => S_lszPathS x.1 x.2⟩
theorem ok_lszPathS : Ok 35 E_lszPathS := mk Try.func35 (by kernel_rfl) [] [] {} trivial (fun x => by kernel_rfl)
noncomputable def E_ltoPath : Entry := ⟨aV (rOne (rAg pathR)), qV (rAg pathR), fun (x : Path) => S_ltoPath x⟩
theorem ok_ltoPath : Ok 71 E_ltoPath := mk Try.func71 (by kernel_rfl) [] [] {} trivial (fun x => by kernel_rfl)
noncomputable def E_ltoPathS : Entry := ⟨aV (rOne (rX .shr 4 pathR)), qV (rX .own 4 pathR), fun (x : (List Path)) => S_ltoPathS x⟩
theorem ok_ltoPathS : Ok 37 E_ltoPathS := mk Try.func37 (by kernel_rfl) [((71, 0), E_ltoPath)] [(101, pathR)] { ro := [(7, pathR)], lv := [(3, ⟨[0, 4], [(3, 7, true)], [(7, 4, true, false)], pVO (rCo (rX .shr 4 pathR) (rOne rI)) (oArr1 pathR)⟩)] } ⟨ok_ltoPath, trivial⟩ (fun x => by kernel_rfl)
noncomputable def E_sCountKind : Entry := ⟨aV (rCo (rX .shr 4 pathR) (rOne rI)), qV rI, fun (x : ((List Path) × Int)) => S_sCountKind x.1 x.2⟩
theorem ok_sCountKind : Ok 36 E_sCountKind := mk Try.func36 (by kernel_rfl) [] [(99, pathR)] { lv := [(3, ⟨[0, 1, 5, 6], [], [], pV (rCo (rX .shr 4 pathR) (rCo rI (rCo rI (rOne rI))))⟩)] } trivial (fun x => by kernel_rfl)
noncomputable def E_iCountKind : Entry := ⟨aV (rCo (rX .shr 4 pathR) (rOne rI)), qV rI, fun (x : ((List Path) × Int)) => S_iCountKind x.1 x.2⟩
theorem ok_iCountKind : Ok 38 E_iCountKind := mk Try.func38 (by kernel_rfl) [] [(99, pathR)] { lv := [(3, ⟨[1, 5, 8, 9, 10], [], [], pV (rCo rI (rCo rI (rCo (rX .shr 4 pathR) (rCo rI (rOne rI)))))⟩)] } trivial (fun x => by kernel_rfl)
noncomputable def E_leqPath : Entry := ⟨aV (rCo (rAg pathR) (rOne (rAg pathR))), qV rB, fun (x : (Path × Path)) => S_leqPath x.1 x.2⟩
theorem ok_leqPath : Ok 72 E_leqPath := mk Try.func72 (by kernel_rfl) [] [] {} trivial (fun x => by kernel_rfl)
noncomputable def E_leqPathS : Entry := ⟨aV (rCo (rX .shr 4 pathR) (rOne (rX .shr 4 pathR))), qV rB, fun (x : ((List Path) × (List Path))) => S_leqPathS x.1 x.2⟩
theorem ok_leqPathS : Ok 39 E_leqPathS := mk Try.func39 (by kernel_rfl) [((72, 0), E_leqPath)] [(99, pathR)] { lv := [(4, ⟨[0, 1, 5], [], [], pV (rCo (rX .shr 4 pathR) (rCo (rX .shr 4 pathR) (rOne rI)))⟩)] } ⟨ok_leqPath, trivial⟩ (fun x => by kernel_rfl)
noncomputable def E_lFnExactCountKind : Entry := ⟨aV (rCo (rX .shr 4 pathR) (rOne rI)), qV rB, fun (x : ((List Path) × Int)) => S_lFnExactCountKind x.1 x.2⟩
theorem ok_lFnExactCountKind : Ok 8 E_lFnExactCountKind := mk Try.func8 (by kernel_rfl) [((35, 0), E_lszPathS), ((37, 0), E_ltoPathS), ((36, 0), E_sCountKind), ((38, 0), E_iCountKind), ((39, 0), E_leqPathS)] [] { tk := [(6, 2), (10, 0)] } ⟨ok_lszPathS, ok_ltoPathS, ok_sCountKind, ok_iCountKind, ok_leqPathS, trivial⟩ (fun x => by kernel_rfl)
noncomputable def E_lszReportS : Entry := ⟨aV (rCo (rX .shr 5 reportR) (rOne rI)), qV rI, fun (x : ((List Report) × Int)) => S_lszReportS x.1 x.2⟩
theorem ok_lszReportS : Ok 40 E_lszReportS := mk Try.func40 (by kernel_rfl) [] [] {} trivial (fun x => by kernel_rfl)
noncomputable def E_ltoReportS : Entry := ⟨aV (rOne (rX .shr 5 reportR)), qV (rX .own 5 reportR), fun (x : (List Report)) => S_ltoReportS x⟩
theorem ok_ltoReportS : Ok 42 E_ltoReportS := mk Try.func42 (by kernel_rfl) [((18, 0), E_ltoReport)] [(25, reportR)] { ro := [(7, reportR)], lv := [(3, ⟨[0, 4], [(3, 7, true)], [(7, 5, true, false)], pVO (rCo (rX .shr 5 reportR) (rOne rI)) (oArr1 reportR)⟩)] } ⟨ok_ltoReport, trivial⟩ (fun x => by kernel_rfl)
noncomputable def E_sCountLights : Entry := ⟨aV (rCo (rX .shr 5 reportR) (rOne rI)), qV rI, fun (x : ((List Report) × Int)) => S_sCountLights x.1 x.2⟩
theorem ok_sCountLights : Ok 41 E_sCountLights := mk Try.func41 (by kernel_rfl) [] [(27, reportR)] { lv := [(3, ⟨[0, 1, 5, 6], [], [], pV (rCo (rX .shr 5 reportR) (rCo rI (rCo rI (rOne rI))))⟩)] } trivial (fun x => by kernel_rfl)
noncomputable def E_iCountLights : Entry := ⟨aV (rCo (rX .shr 5 reportR) (rOne rI)), qV rI, fun (x : ((List Report) × Int)) => S_iCountLights x.1 x.2⟩
theorem ok_iCountLights : Ok 43 E_iCountLights := mk Try.func43 (by kernel_rfl) [] [(27, reportR)] { lv := [(3, ⟨[1, 5, 8, 9, 10], [], [], pV (rCo rI (rCo rI (rCo (rX .shr 5 reportR) (rCo rI (rOne rI)))))⟩)] } trivial (fun x => by kernel_rfl)
noncomputable def E_leqReport : Entry := ⟨aV (rCo (rAg reportR) (rOne (rAg reportR))), qV rB, fun (x : (Report × Report)) => S_leqReport x.1 x.2⟩
theorem ok_leqReport : Ok 73 E_leqReport := mk Try.func73 (by kernel_rfl) [] [] {} trivial (fun x => by kernel_rfl)
noncomputable def E_leqReportS : Entry := ⟨aV (rCo (rX .shr 5 reportR) (rOne (rX .shr 5 reportR))), qV rB, fun (x : ((List Report) × (List Report))) => S_leqReportS x.1 x.2⟩
theorem ok_leqReportS : Ok 44 E_leqReportS := mk Try.func44 (by kernel_rfl) [((73, 0), E_leqReport)] [(27, reportR)] { lv := [(4, ⟨[0, 1, 5], [], [], pV (rCo (rX .shr 5 reportR) (rCo (rX .shr 5 reportR) (rOne rI)))⟩)] } ⟨ok_leqReport, trivial⟩ (fun x => by kernel_rfl)
noncomputable def E_lFnExactCountLights : Entry := ⟨aV (rCo (rX .shr 5 reportR) (rOne rI)), qV rB, fun (x : ((List Report) × Int)) => S_lFnExactCountLights x.1 x.2⟩
theorem ok_lFnExactCountLights : Ok 9 E_lFnExactCountLights := mk Try.func9 (by kernel_rfl) [((40, 0), E_lszReportS), ((42, 0), E_ltoReportS), ((41, 0), E_sCountLights), ((43, 0), E_iCountLights), ((44, 0), E_leqReportS)] [] { tk := [(6, 2), (10, 0)] } ⟨ok_lszReportS, ok_ltoReportS, ok_sCountLights, ok_iCountLights, ok_leqReportS, trivial⟩ (fun x => by kernel_rfl)
noncomputable def E_sIsPath : Entry := ⟨aV (rOne (rAg pathR)), qV rB, fun (x : Path) => S_sIsPath x⟩
theorem ok_sIsPath : Ok 88 E_sIsPath := mk Try.func88 (by kernel_rfl) [((63, 0), E_sl1In)] [] {} ⟨ok_sl1In, trivial⟩ (fun x => by kernel_rfl)
noncomputable def E_sArePaths : Entry := ⟨aV (rOne (rX .shr 4 pathR)), qV rB, fun (x : (List Path)) => S_sArePaths x⟩
theorem ok_sArePaths : Ok 74 E_sArePaths := mk Try.func74 (by kernel_rfl) [((88, 0), E_sIsPath)] [(99, pathR)] { lv := [(2, ⟨[0, 3], [], [], pV (rCo (rX .shr 4 pathR) (rOne rI))⟩)] } ⟨ok_sIsPath, trivial⟩ (fun x => by kernel_rfl)
noncomputable def E_sBusiestArm : Entry := ⟨aV (rOne (rX .shr 4 pathR)), qV rI, fun (x : (List Path)) => S_sBusiestArm x⟩
theorem ok_sBusiestArm : Ok 45 E_sBusiestArm := mk Try.func45 (by kernel_rfl) [((74, 0), E_sArePaths)] [(99, pathR)] { lv := [(4, ⟨[0, 3, 4, 5], [], [], pV (rCo (rX .shr 4 pathR) (rCo rI (rCo rI (rOne rI))))⟩), (8, ⟨[0, 3, 4, 5, 6, 7], [], [], pV (rCo (rX .shr 4 pathR) (rCo rI (rCo rI (rCo rI (rCo rI (rOne rI))))))⟩)] } ⟨ok_sArePaths, trivial⟩ (fun x => by kernel_rfl)
noncomputable def E_iIsPath : Entry := ⟨aV (rOne (rAg pathR)), qV rB, fun (x : Path) => S_iIsPath x⟩
theorem ok_iIsPath : Ok 89 E_iIsPath := mk Try.func89 (by kernel_rfl) [((64, 0), E_iInRange)] [] {} ⟨ok_iInRange, trivial⟩ (fun x => by kernel_rfl)
noncomputable def E_iArePaths : Entry := ⟨aV (rOne (rX .shr 4 pathR)), qV rB, fun (x : (List Path)) => S_iArePaths x⟩
theorem ok_iArePaths : Ok 75 E_iArePaths := mk Try.func75 (by kernel_rfl) [((89, 0), E_iIsPath)] [(99, pathR)] { lv := [(4, ⟨[0, 8, 9, 10], [], [], pV (rCo (rX .shr 4 pathR) (rCo (rX .shr 4 pathR) (rCo rI (rOne rI))))⟩)] } ⟨ok_iIsPath, trivial⟩ (fun x => by kernel_rfl)
noncomputable def E_iBusiestArm : Entry := ⟨aV (rOne (rX .shr 4 pathR)), qV rI, fun (x : (List Path)) => S_iBusiestArm x⟩
theorem ok_iBusiestArm : Ok 46 E_iBusiestArm := mk Try.func46 (by kernel_rfl) [((75, 0), E_iArePaths)] [(99, pathR)] { lv := [(5, ⟨[0, 3, 4, 13], [], [], pV (rCo (rX .shr 4 pathR) (rCo rI (rCo rI (rOne rI))))⟩), (9, ⟨[0, 3, 4, 5, 6, 13, 16, 17, 18], [], [], pV (rCo (rX .shr 4 pathR) (rCo rI (rCo rI (rCo rI (rCo rI (rCo rI (rCo (rX .shr 4 pathR) (rCo rI (rOne rI)))))))))⟩)] } ⟨ok_iArePaths, trivial⟩ (fun x => by kernel_rfl)
noncomputable def E_lFnExactBusiestArm : Entry := ⟨aV (rOne (rX .shr 4 pathR)), qV rB, fun (x : (List Path)) => S_lFnExactBusiestArm x⟩
theorem ok_lFnExactBusiestArm : Ok 10 E_lFnExactBusiestArm := mk Try.func10 (by kernel_rfl) [((35, 0), E_lszPathS), ((37, 0), E_ltoPathS), ((45, 0), E_sBusiestArm), ((46, 0), E_iBusiestArm), ((39, 0), E_leqPathS)] [] { tk := [(6, 2), (10, 0)] } ⟨ok_lszPathS, ok_ltoPathS, ok_sBusiestArm, ok_iBusiestArm, ok_leqPathS, trivial⟩ (fun x => by kernel_rfl)
noncomputable def E_sClearOf : Entry := ⟨aV (rOne (rAg pathR)), qV rI, fun (x : Path) => S_sClearOf x⟩
theorem ok_sClearOf : Ok 90 E_sClearOf := mk Try.func90 (by kernel_rfl) [((88, 0), E_sIsPath)] [(3, iR)] {} ⟨ok_sIsPath, trivial⟩ (fun x => by kernel_rfl)
noncomputable def E_sMax : Entry := ⟨aV (rCo rI (rOne rI)), qV rI, fun (x : (Int × Int)) => S_sMax x.1 x.2⟩
theorem ok_sMax : Ok 83 E_sMax := mk Try.func83 (by kernel_rfl) [] [] {} trivial (fun x => by kernel_rfl)
noncomputable def E_sLongestClear : Entry := ⟨aV (rOne (rX .shr 4 pathR)), qV rI, fun (x : (List Path)) => S_sLongestClear x⟩
theorem ok_sLongestClear : Ok 76 E_sLongestClear := mk Try.func76 (by kernel_rfl) [((74, 0), E_sArePaths), ((90, 0), E_sClearOf), ((83, 0), E_sMax)] [(99, pathR)] { lv := [(3, ⟨[0, 3, 4], [], [], pV (rCo (rX .shr 4 pathR) (rCo rI (rOne rI)))⟩)] } ⟨ok_sArePaths, ok_sClearOf, ok_sMax, trivial⟩ (fun x => by kernel_rfl)
noncomputable def E_sWaitBound : Entry := ⟨aV (rOne (rX .shr 4 pathR)), qV rI, fun (x : (List Path)) => S_sWaitBound x⟩
theorem ok_sWaitBound : Ok 47 E_sWaitBound := mk Try.func47 (by kernel_rfl) [((76, 0), E_sLongestClear)] [] {} ⟨ok_sLongestClear, trivial⟩ (fun x => by kernel_rfl)
noncomputable def E_iClearOf : Entry := ⟨aV (rOne (rAg pathR)), qV rI, fun (x : Path) => S_iClearOf x⟩
theorem ok_iClearOf : Ok 91 E_iClearOf := mk Try.func91 (by kernel_rfl) [((89, 0), E_iIsPath)] [] {} ⟨ok_iIsPath, trivial⟩ (fun x => by kernel_rfl)
noncomputable def E_iLongestClear : Entry := ⟨aV (rOne (rX .shr 4 pathR)), qV rI, fun (x : (List Path)) => S_iLongestClear x⟩
theorem ok_iLongestClear : Ok 77 E_iLongestClear := mk Try.func77 (by kernel_rfl) [((75, 0), E_iArePaths), ((91, 0), E_iClearOf)] [(99, pathR)] { lv := [(5, ⟨[3, 10, 11, 12], [], [], pV (rCo rI (rCo (rX .shr 4 pathR) (rCo rI (rOne rI))))⟩)] } ⟨ok_iArePaths, ok_iClearOf, trivial⟩ (fun x => by kernel_rfl)
noncomputable def E_iWaitBound : Entry := ⟨aV (rOne (rX .shr 4 pathR)), qV rI, fun (x : (List Path)) => S_iWaitBound x⟩
theorem ok_iWaitBound : Ok 48 E_iWaitBound := mk Try.func48 (by kernel_rfl) [((77, 0), E_iLongestClear)] [] {} ⟨ok_iLongestClear, trivial⟩ (fun x => by kernel_rfl)
noncomputable def E_lFnExactWaitBound : Entry := ⟨aV (rOne (rX .shr 4 pathR)), qV rB, fun (x : (List Path)) => S_lFnExactWaitBound x⟩
theorem ok_lFnExactWaitBound : Ok 11 E_lFnExactWaitBound := mk Try.func11 (by kernel_rfl) [((35, 0), E_lszPathS), ((37, 0), E_ltoPathS), ((47, 0), E_sWaitBound), ((48, 0), E_iWaitBound), ((39, 0), E_leqPathS)] [] { tk := [(6, 2), (10, 0)] } ⟨ok_lszPathS, ok_ltoPathS, ok_sWaitBound, ok_iWaitBound, ok_leqPathS, trivial⟩ (fun x => by kernel_rfl)
noncomputable def E_ltoIntS : Entry := ⟨aV (rOne (rX .shr 1 iR)), qV (rX .own 1 iR), fun (x : (List Int)) => S_ltoIntS x⟩
theorem ok_ltoIntS : Ok 50 E_ltoIntS := mk Try.func50 (by kernel_rfl) [] [(3, iR)] { ro := [(7, iR)], lv := [(3, ⟨[0, 4], [(3, 7, true)], [(7, 1, true, false)], pVO (rCo (rX .shr 1 iR) (rOne rI)) (oArr1 iR)⟩)] } trivial (fun x => by kernel_rfl)
noncomputable def E_sl39Join : Entry := ⟨aV (rCo (rX .shr 1 sR) (rOne rS)), qV rS, fun (x : ((List ByteArray) × ByteArray)) => S_sl39Join x.1 x.2⟩
theorem ok_sl39Join : Ok 78 E_sl39Join := mk Try.func78 (by kernel_rfl) [] [(9, sR)] { lv := [(3, ⟨[0, 1, 5, 6], [], [], pV (rCo (rX .shr 1 sR) (rCo rS (rCo rS (rOne rI))))⟩)] } trivial (fun x => by kernel_rfl)
noncomputable def E_sFormatLights : Entry := ⟨aV (rOne (rX .shr 1 iR)), qV rS, fun (x : (List Int)) => S_sFormatLights x⟩
theorem ok_sFormatLights : Ok 49 E_sFormatLights := mk Try.func49 (by kernel_rfl) [((63, 0), E_sl1In), ((78, 0), E_sl39Join)] [(3, iR)] { tk := [(1, 1), (8, 0), (8, 3), (8, 4), (9, 0)], lv := [(3, ⟨[0, 3, 4], [], [], pV (rCo (rX .shr 1 iR) (rCo (rX .own 1 sR) (rOne rI)))⟩)] } ⟨ok_sl1In, ok_sl39Join, trivial⟩ (fun x => by kernel_rfl)
noncomputable def E_ijoined : Entry := ⟨aV (rCo (rX .shr 1 sR) (rOne rS)), qV rS, fun (x : ((List ByteArray) × ByteArray)) => S_ijoined x.1 x.2⟩
theorem ok_ijoined : Ok 79 E_ijoined := mk Try.func79 (by kernel_rfl) [((92, 0), E_strings_Join)] [] {} ⟨ok_strings_Join, trivial⟩ (fun x => by kernel_rfl)
noncomputable def E_iFormatLights : Entry := ⟨aV (rOne (rX .shr 1 iR)), qV rS, fun (x : (List Int)) => S_iFormatLights x⟩
theorem ok_iFormatLights : Ok 51 E_iFormatLights := mk Try.func51 (by kernel_rfl) [((79, 0), E_ijoined)] [(3, iR)] { tk := [(1, 1), (13, 0), (13, 3), (13, 4), (15, 0)], lv := [(3, ⟨[3, 8, 9, 10], [], [], pV (rCo (rX .own 1 sR) (rCo (rX .shr 1 iR) (rCo rI (rOne rI))))⟩)] } ⟨ok_ijoined, trivial⟩ (fun x => by kernel_rfl)
noncomputable def E_leqIntS : Entry := ⟨aV (rCo (rX .shr 1 iR) (rOne (rX .shr 1 iR))), qV rB, fun (x : ((List Int) × (List Int))) => S_leqIntS x.1 x.2⟩
theorem ok_leqIntS : Ok 52 E_leqIntS := mk Try.func52 (by kernel_rfl) [] [(3, iR)] { lv := [(4, ⟨[0, 1, 5], [], [], pV (rCo (rX .shr 1 iR) (rCo (rX .shr 1 iR) (rOne rI)))⟩)] } trivial (fun x => by kernel_rfl)
noncomputable def E_lFnExactFormatLights : Entry := ⟨aV (rOne (rX .shr 1 iR)), qV rB, fun (x : (List Int)) => S_lFnExactFormatLights x⟩
theorem ok_lFnExactFormatLights : Ok 12 E_lFnExactFormatLights := mk Try.func12 (by kernel_rfl) [((50, 0), E_ltoIntS), ((49, 0), E_sFormatLights), ((51, 0), E_iFormatLights), ((52, 0), E_leqIntS)] [] { tk := [(4, 2), (8, 0)] } ⟨ok_ltoIntS, ok_sFormatLights, ok_iFormatLights, ok_leqIntS, trivial⟩ (fun x => by kernel_rfl)
noncomputable def E_lszIntS : Entry := ⟨aV (rCo (rX .shr 1 iR) (rOne rI)), qV rI, fun (x : ((List Int) × Int)) => S_lszIntS x.1 x.2⟩
theorem ok_lszIntS : Ok 93 E_lszIntS := mk Try.func93 (by kernel_rfl) [] [] {} trivial (fun x => by kernel_rfl)
noncomputable def E_lszEntry : Entry := ⟨aV (rCo (rAg (noteR .shr)) (rOne rI)), qV rI, fun (x : (Note × Int)) => S_lszEntry x.1 x.2⟩
theorem ok_lszEntry : Ok 80 E_lszEntry := mk Try.func80 (by kernel_rfl) [((93, 0), E_lszIntS)] [] {} ⟨ok_lszIntS, trivial⟩ (fun x => by kernel_rfl)
noncomputable def E_lszEntryS : Entry := ⟨aV (rCo (rX .shr 3 (noteR .shr)) (rOne rI)), qV rI, fun (x : ((List Note) × Int)) => S_lszEntryS x.1 x.2⟩
theorem ok_lszEntryS : Ok 58 E_lszEntryS := mk Try.func58 (by kernel_rfl) [((80, 0), E_lszEntry)] [(108, (noteR .shr))] { lv := [(5, ⟨[0, 1, 5], [], [], pV (rCo (rX .shr 3 (noteR .shr)) (rCo rI (rOne rI)))⟩)] } ⟨ok_lszEntry, trivial⟩ (fun x => by kernel_rfl)
noncomputable def E_ltoEntry : Entry := ⟨aV (rOne (rAg (noteR .shr))), qV (rAg (noteR .own)), fun (x : Note) => S_ltoEntry x⟩
theorem ok_ltoEntry : Ok 84 E_ltoEntry := mk Try.func84 (by kernel_rfl) [((50, 0), E_ltoIntS)] [] { tk := [(3, 4), (5, 1)], mo := [(5, 0)] } ⟨ok_ltoIntS, trivial⟩ (fun x => by kernel_rfl)
noncomputable def E_ltoEntryS : Entry := ⟨aV (rOne (rX .shr 3 (noteR .shr))), qV (rX .own 3 (noteR .own)), fun (x : (List Note)) => S_ltoEntryS x⟩
theorem ok_ltoEntryS : Ok 60 E_ltoEntryS := mk Try.func60 (by kernel_rfl) [((84, 0), E_ltoEntry)] [(108, (noteR .shr))] { tk := [(5, 8)], ro := [(7, (noteR .own))], lv := [(3, ⟨[0, 4], [(3, 7, true)], [(7, 3, true, false)], pVO (rCo (rX .shr 3 (noteR .shr)) (rOne rI)) (oArr1 (noteR .own))⟩)] } ⟨ok_ltoEntry, trivial⟩ (fun x => by kernel_rfl)
noncomputable def E_sMod : Entry := ⟨aV (rCo rI (rOne rI)), qV rI, fun (x : (Int × Int)) => S_sMod x.1 x.2⟩
theorem ok_sMod : Ok 103 E_sMod := mk Try.func103 (by kernel_rfl) [((63, 0), E_sl1In)] [] {} ⟨ok_sl1In, trivial⟩ (fun x => by kernel_rfl)
noncomputable def E_sHash : Entry := ⟨aV (rOne (rX .shr 1 iR)), qV rI, fun (x : (List Int)) => S_sHash x⟩
theorem ok_sHash : Ok 99 E_sHash := mk Try.func99 (by kernel_rfl) [((103, 0), E_sMod)] [(3, iR)] { lv := [(3, ⟨[0, 3, 4], [], [], pV (rCo (rX .shr 1 iR) (rCo rI (rOne rI)))⟩)] } ⟨ok_sMod, trivial⟩ (fun x => by kernel_rfl)
noncomputable def E_sSealOf : Entry := ⟨aV (rCo rI (rCo rI (rOne (rX .shr 1 iR)))), qV rI, fun (x : (Int × Int × (List Int))) => S_sSealOf x.1 x.2.1 x.2.2⟩
theorem ok_sSealOf : Ok 94 E_sSealOf := mk Try.func94 (by kernel_rfl) [((99, 0), E_sHash)] [] {} ⟨ok_sHash, trivial⟩ (fun x => by kernel_rfl)
noncomputable def E_sIsRecord : Entry := ⟨aV (rOne (rX .shr 3 (noteR .shr))), qV rB, fun (x : (List Note)) => S_sIsRecord x⟩
theorem ok_sIsRecord : Ok 81 E_sIsRecord := mk Try.func81 (by kernel_rfl) [((94, 0), E_sSealOf), ((63, 0), E_sl1In)] [(3, iR), (110, (noteR .shr))] { lv := [(3, ⟨[0, 3, 4], [], [], pV (rCo (rX .shr 3 (noteR .shr)) (rCo rI (rOne rI)))⟩), (9, ⟨[0, 3, 4, 5], [], [], pV (rCo (rX .shr 3 (noteR .shr)) (rCo rI (rCo rI (rOne rI))))⟩)] } ⟨ok_sSealOf, ok_sl1In, trivial⟩ (fun x => by kernel_rfl)
noncomputable def E_sMin : Entry := ⟨aV (rCo rI (rOne rI)), qV rI, fun (x : (Int × Int)) => S_sMin x.1 x.2⟩
theorem ok_sMin : Ok 82 E_sMin := mk Try.func82 (by kernel_rfl) [] [] {} trivial (fun x => by kernel_rfl)
noncomputable def E_sOpenShare : Entry := ⟨aV (rCo (rX .shr 3 (noteR .shr)) (rCo rI (rOne rI))), qV rI, fun (x : ((List Note) × Int × Int)) => S_sOpenShare x.1 x.2.1 x.2.2⟩
theorem ok_sOpenShare : Ok 59 E_sOpenShare := mk Try.func59 (by kernel_rfl) [((81, 0), E_sIsRecord), ((63, 0), E_sl1In), ((82, 0), E_sMin), ((83, 0), E_sMax)] [(3, iR), (110, (noteR .shr))] { lv := [(5, ⟨[0, 1, 2, 7, 8], [], [], pV (rCo (rX .shr 3 (noteR .shr)) (rCo rI (rCo rI (rCo rI (rOne rI)))))⟩)] } ⟨ok_sIsRecord, ok_sl1In, ok_sMin, ok_sMax, trivial⟩ (fun x => by kernel_rfl)
noncomputable def E_iMod : Entry := ⟨aV (rCo rI (rOne rI)), qV rI, fun (x : (Int × Int)) => S_iMod x.1 x.2⟩
theorem ok_iMod : Ok 107 E_iMod := mk Try.func107 (by kernel_rfl) [((64, 0), E_iInRange)] [] {} ⟨ok_iInRange, trivial⟩ (fun x => by kernel_rfl)
noncomputable def E_ifold : Entry := ⟨aV (rCo rI (rOne rI)), qV rI, fun (x : (Int × Int)) => S_ifold x.1 x.2⟩
theorem ok_ifold : Ok 104 E_ifold := mk Try.func104 (by kernel_rfl) [((107, 0), E_iMod)] [] {} ⟨ok_iMod, trivial⟩ (fun x => by kernel_rfl)
noncomputable def E_iHash : Entry := ⟨aV (rOne (rX .shr 1 iR)), qV rI, fun (x : (List Int)) => S_iHash x⟩
theorem ok_iHash : Ok 100 E_iHash := mk Try.func100 (by kernel_rfl) [((104, 0), E_ifold)] [(3, iR)] { lv := [(3, ⟨[3, 6, 7, 8], [], [], pV (rCo rI (rCo (rX .shr 1 iR) (rCo rI (rOne rI))))⟩)] } ⟨ok_ifold, trivial⟩ (fun x => by kernel_rfl)
noncomputable def E_iSealOf : Entry := ⟨aV (rCo rI (rCo rI (rOne (rX .shr 1 iR)))), qV rI, fun (x : (Int × Int × (List Int))) => S_iSealOf x.1 x.2.1 x.2.2⟩
theorem ok_iSealOf : Ok 95 E_iSealOf := mk Try.func95 (by kernel_rfl) [((100, 0), E_iHash)] [] {} ⟨ok_iHash, trivial⟩ (fun x => by kernel_rfl)
noncomputable def E_iIsRecord : Entry := ⟨aV (rOne (rX .shr 3 (noteR .shr))), qV rB, fun (x : (List Note)) => S_iIsRecord x⟩
theorem ok_iIsRecord : Ok 85 E_iIsRecord := mk Try.func85 (by kernel_rfl) [((64, 0), E_iInRange), ((95, 0), E_iSealOf)] [(3, iR), (110, (noteR .shr))] { lv := [(5, ⟨[0, 3, 11, 12, 13], [], [], pV (rCo (rX .shr 3 (noteR .shr)) (rCo rI (rCo (rX .shr 3 (noteR .shr)) (rCo rI (rOne rI)))))⟩), (10, ⟨[0, 11, 12, 13, 66, 67, 68], [(5, 5, false)], [(5, 3, false, false)], pVO (rCo (rX .shr 3 (noteR .shr)) (rCo (rX .shr 3 (noteR .shr)) (rCo rI (rCo rI (rCo (rX .shr 1 iR) (rCo rI (rOne rI))))))) (oRow1 (noteR .shr))⟩)] } ⟨ok_iInRange, ok_iSealOf, trivial⟩ (fun x => by kernel_rfl)
noncomputable def E_ilightOf : Entry := ⟨aV (rCo (rAg (noteR .shr)) (rOne rI)), qV rI, fun (x : (Note × Int)) => S_ilightOf x.1 x.2⟩
theorem ok_ilightOf : Ok 86 E_ilightOf := mk Try.func86 (by kernel_rfl) [] [(3, iR)] {} trivial (fun x => by kernel_rfl)
noncomputable def E_iOpenShare : Entry := ⟨aV (rCo (rX .shr 3 (noteR .shr)) (rCo rI (rOne rI))), qV rI, fun (x : ((List Note) × Int × Int)) => S_iOpenShare x.1 x.2.1 x.2.2⟩
theorem ok_iOpenShare : Ok 61 E_iOpenShare := mk Try.func61 (by kernel_rfl) [((85, 0), E_iIsRecord), ((86, 0), E_ilightOf)] [(110, (noteR .shr))] { lv := [(5, ⟨[0, 1, 2, 7, 39, 40, 41], [], [], pV (rCo (rX .shr 3 (noteR .shr)) (rCo rI (rCo rI (rCo rI (rCo (rX .shr 3 (noteR .shr)) (rCo rI (rOne rI)))))))⟩)] } ⟨ok_iIsRecord, ok_ilightOf, trivial⟩ (fun x => by kernel_rfl)
noncomputable def E_leqEntry : Entry := ⟨aV (rCo (rAg (noteR .shr)) (rOne (rAg (noteR .shr)))), qV rB, fun (x : (Note × Note)) => S_leqEntry x.1 x.2⟩
theorem ok_leqEntry : Ok 87 E_leqEntry := mk Try.func87 (by kernel_rfl) [((52, 0), E_leqIntS)] [] {} ⟨ok_leqIntS, trivial⟩ (fun x => by kernel_rfl)
noncomputable def E_leqEntryS : Entry := ⟨aV (rCo (rX .shr 3 (noteR .shr)) (rOne (rX .shr 3 (noteR .shr)))), qV rB, fun (x : ((List Note) × (List Note))) => S_leqEntryS x.1 x.2⟩
theorem ok_leqEntryS : Ok 62 E_leqEntryS := mk Try.func62 (by kernel_rfl) [((87, 0), E_leqEntry)] [(110, (noteR .shr))] { lv := [(4, ⟨[0, 1, 5], [], [], pV (rCo (rX .shr 3 (noteR .shr)) (rCo (rX .shr 3 (noteR .shr)) (rOne rI)))⟩)] } ⟨ok_leqEntry, trivial⟩ (fun x => by kernel_rfl)
noncomputable def E_lFnExactOpenShare : Entry := ⟨aV (rCo (rX .shr 3 (noteR .shr)) (rCo rI (rOne rI))), qV rB, fun (x : ((List Note) × Int × Int)) => S_lFnExactOpenShare x.1 x.2.1 x.2.2⟩
theorem ok_lFnExactOpenShare : Ok 14 E_lFnExactOpenShare := mk Try.func14 (by kernel_rfl) [((58, 0), E_lszEntryS), ((60, 0), E_ltoEntryS), ((59, 0), E_sOpenShare), ((61, 0), E_iOpenShare), ((62, 0), E_leqEntryS)] [] { tk := [(6, 2), (10, 0)] } ⟨ok_lszEntryS, ok_ltoEntryS, ok_sOpenShare, ok_iOpenShare, ok_leqEntryS, trivial⟩ (fun x => by kernel_rfl)
end Go.Proofs.Ytdeoffkhnkdhmaa
