/- Part of the proof: see the last text of the claim. -/
import Derived.Test.YtjojcbmkcnkjoaaGreatDoorGTyLV
import Derived.Test.YtjojcbmkcnkjoaaGreatDoorShV
set_option linter.all false
namespace Go.Sh
open Go.Fx
def SmPart (s : Part) : Prop := Sm s.stage
def OkPart (s : Part) : Prop := (s.stage.length ≤ maxLen ∧ ∀ y ∈ s.stage, Rg y) ∧ Rg s.green
def OkReport (s : Report) : Prop := Rg s.path ∧ Rg s.second ∧ Rg s.light ∧ Rg s.since ∧ Rg s.other
def OkPath (s : Path) : Prop := Rg s.id ∧ Rg s.kind ∧ Rg s.src ∧ Rg s.dst
def SmControl (s : Control) : Prop := Sm s.stage ∧ Sm s.next
def OkControl (s : Control) : Prop := (s.stage.length ≤ maxLen ∧ ∀ y ∈ s.stage, Rg y) ∧ Rg s.since ∧ (s.next.length ≤ maxLen ∧ ∀ y ∈ s.next, Rg y) ∧ Rg s.left
def SmNote (s : Note) : Prop := Sm s.lights
def SmTown (s : Town) : Prop := Sm s.paths ∧ SmControl s.control ∧ Sm s.wants ∧ Sm s.lamps ∧ (Sm s.record ∧ ∀ y ∈ s.record, SmNote y)
end Go.Sh
