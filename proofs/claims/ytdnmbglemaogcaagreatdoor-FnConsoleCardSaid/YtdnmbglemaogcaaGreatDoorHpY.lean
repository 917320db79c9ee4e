/- Part of the proof: see the last text of the claim. -/
import Derived.Test.YtdnmbglemaogcaaGreatDoorGTyLY
import Derived.Test.YtdnmbglemaogcaaGreatDoorShY
set_option linter.all false
namespace Go.Sh
open Go.Fx
def Kr (s:Path):Prop:=Rg s.id/\Rg s.kind/\Rg s.src/\Rg s.dst
def ZZ (s:Control):Prop:=Sm s.stage/\Sm s.next
def Ziy (s:Control):Prop:=(s.stage.length<=maxLen/\∀y∈s.stage,Rg y)/\Rg s.since/\(s.next.length<=maxLen/\∀y∈s.next,Rg y)/\Rg s.left
def QE (s:Note):Prop:=Sm s.lights
def ZE (s:Town):Prop:=Sm s.paths/\ZZ s.control/\Sm s.wants/\Sm s.lamps/\(Sm s.record/\∀y∈s.record,QE y)
def Ziz (s:Part):Prop:=Sm s.stage
def Zmc (s:Part):Prop:=(s.stage.length<=maxLen/\∀y∈s.stage,Rg y)/\Rg s.green
def Zrd (s:Report):Prop:=Rg s.path/\Rg s.second/\Rg s.light/\Rg s.since/\Rg s.other
end Go.Sh
