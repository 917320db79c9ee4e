/- Part of the proof: see the last text of the claim. -/
import Derived.Test.YtiidjcgodncncaaGreatGTyLR
import Derived.Test.YtiidjcgodncncaaGreatShR
set_option linter.all false
namespace Go.Sh
open Go.Fx
def OkPath (s : Path) : Prop := Rg s.id ∧ Rg s.kind ∧ Rg s.src ∧ Rg s.dst
def shPath : Sh := .st 4 [.int .i64, .int .i64, .int .i64, .int .i64]
theorem reads_path : Reads shPath pathR OkPath := reads_map (reads_st (readF_co reads_int (readF_co reads_int (readF_co reads_int (readF_one reads_int))))) (fun _ h => h)
def SmControl (s : Control) : Prop := Sm s.stage ∧ Sm s.next
def OkControl (s : Control) : Prop := (s.stage.length ≤ maxLen ∧ ∀ y ∈ s.stage, Rg y) ∧ Rg s.since ∧ (s.next.length ≤ maxLen ∧ ∀ y ∈ s.next, Rg y) ∧ Rg s.left
def shControl : Sh := .st 4 [.sl 1 (.int .i64), .int .i64, .sl 1 (.int .i64), .int .i64]
theorem reads_control : Reads shControl (controlR .shr .shr) OkControl := reads_map (reads_st (readF_co (reads_sl 1 reads_int) (readF_co reads_int (readF_co (reads_sl 1 reads_int) (readF_one reads_int))))) (fun _ h => h)
def OkWant (s : Want) : Prop := Rg s.path ∧ Rg s.wait
def shWant : Sh := .st 2 [.int .i64, .int .i64]
theorem reads_want : Reads shWant wantR OkWant := reads_map (reads_st (readF_co reads_int (readF_one reads_int))) (fun _ h => h)
def OkPrio (s : Prio) : Prop := Rg s.path ∧ Rg s.left
def shPrio : Sh := .st 2 [.int .i64, .int .i64]
theorem reads_prio : Reads shPrio prioR OkPrio := reads_map (reads_st (readF_co reads_int (readF_one reads_int))) (fun _ h => h)
def OkLamp (s : Lamp) : Prop := Rg s.path ∧ Rg s.colour ∧ True
def shLamp : Sh := .st 3 [.int .i64, .int .i64, .bool]
theorem reads_lamp : Reads shLamp lampR OkLamp := reads_map (reads_st (readF_co reads_int (readF_co reads_int (readF_one reads_bool)))) (fun _ h => h)
def SmNote (s : Note) : Prop := Sm s.lights
def OkNote (s : Note) : Prop := Rg s.second ∧ (s.lights.length ≤ maxLen ∧ ∀ y ∈ s.lights, Rg y) ∧ Rg s.sig
def shNote : Sh := .st 3 [.int .i64, .sl 1 (.int .i64), .int .i64]
theorem reads_note : Reads shNote (noteR .shr) OkNote := reads_map (reads_st (readF_co reads_int (readF_co (reads_sl 1 reads_int) (readF_one reads_int)))) (fun _ h => h)
def SmTown (s : Town) : Prop := Sm s.paths ∧ SmControl s.control ∧ Sm s.wants ∧ Sm s.lamps ∧ (Sm s.record ∧ ∀ y ∈ s.record, SmNote y)
def OkTown (s : Town) : Prop := (s.paths.length ≤ maxLen ∧ ∀ y ∈ s.paths, OkPath y) ∧ OkControl s.control ∧ (s.wants.length ≤ maxLen ∧ ∀ y ∈ s.wants, OkWant y) ∧ OkPrio s.prio ∧ (s.lamps.length ≤ maxLen ∧ ∀ y ∈ s.lamps, OkLamp y) ∧ True ∧ (s.record.length ≤ maxLen ∧ ∀ y ∈ s.record, OkNote y) ∧ Rg s.books ∧ Rg s.now
def shTown : Sh := .st 13 [.sl 4 (shPath), shControl, .sl 2 (shWant), shPrio, .sl 3 (shLamp), .bool, .sl 3 (shNote), .int .i64, .int .i64]
theorem reads_town : Reads shTown (townR .shr .shr .shr .shr .shr .shr .shr) OkTown := reads_map (reads_st (readF_co (reads_sl 4 reads_path) (readF_ap reads_control (readF_co (reads_sl 2 reads_want) (readF_ap reads_prio (readF_co (reads_sl 3 reads_lamp) (readF_co reads_bool (readF_co (reads_sl 3 reads_note) (readF_co reads_int (readF_one reads_int)))))))))) (fun _ h => h)
def OkReport (s : Report) : Prop := Rg s.path ∧ Rg s.second ∧ Rg s.light ∧ Rg s.since ∧ Rg s.other
def shReport : Sh := .st 5 [.int .i64, .int .i64, .int .i64, .int .i64, .int .i64]
theorem reads_report : Reads shReport reportR OkReport := reads_map (reads_st (readF_co reads_int (readF_co reads_int (readF_co reads_int (readF_co reads_int (readF_one reads_int)))))) (fun _ h => h)
def SmL1Cur (s : L1Cur) : Prop := Sm s.b
def OkL1Cur (s : L1Cur) : Prop := (s.b.length ≤ maxLen ∧ ∀ y ∈ s.b, (0 ≤ y ∧ y ≤ 255)) ∧ Rg s.i ∧ Rg s.h
def shL1Cur : Sh := .st 3 [.sl 1 (.int .u8), .int .i64, .int .i64]
theorem reads_l1Cur : Reads shL1Cur (l1CurR .shr) OkL1Cur := reads_map (reads_st (readF_co (reads_sl 1 reads_u8) (readF_co reads_int (readF_one reads_int)))) (fun _ h => h)
end Go.Sh
