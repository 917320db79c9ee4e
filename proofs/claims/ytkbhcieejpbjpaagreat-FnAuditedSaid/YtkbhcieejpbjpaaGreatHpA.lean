/- Part of the proof: see the last text of the claim. -/
import Derived.Test.YtkbhcieejpbjpaaGreatGTyLA
import Derived.Test.YtkbhcieejpbjpaaGreatShA
set_option linter.all false
namespace Go.Sh
open Go.Fx
def SmControl (s : Control) : Prop := Sm s.stage ∧ Sm s.next
def SmNote (s : Note) : Prop := Sm s.lights
def SmTown (s : Town) : Prop := Sm s.paths ∧ SmControl s.control ∧ Sm s.wants ∧ Sm s.lamps ∧ (Sm s.record ∧ ∀ y ∈ s.record, SmNote y)
end Go.Sh
