/- Part of the proof: see the last text of the claim. -/
import Derived.Test.YtkbhcieejpbjpaaGreatGTyLM
import Derived.Test.YtkbhcieejpbjpaaGreatShM
set_option linter.all false
namespace Go.Sh
open Go.Fx
def SmControl (s : Control) : Prop := Sm s.stage ∧ Sm s.next
def SmNote (s : Note) : Prop := Sm s.lights
end Go.Sh
