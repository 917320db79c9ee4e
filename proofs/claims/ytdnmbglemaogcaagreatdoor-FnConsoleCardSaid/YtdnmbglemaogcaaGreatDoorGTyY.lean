/- Part of the proof: see the last text of the claim. -/
import Derived.Test.YtdnmbglemaogcaaGreatDoorFzZC
import Derived.Test.YtdnmbglemaogcaaGreatDoorFzZK0
set_option linter.all false
namespace Go.Sh
open Go.Fx
abbrev W (n:Int):Int:=IntKind.i64.wrap n
abbrev iR:RR:=Zb rI
abbrev yR:RR:=Zb rY
abbrev bR:RR:=Zb rB
abbrev sR:RR:=Zb rS
structure Path where
 id:Int
 kind:Int
 src:Int
 dst:Int
 deriving DecidableEq,Inhabited
def Zg:RR:=(rCo rI (rCo rI (rCo rI (Zb rI)))).map (fun x=>(⟨x.1,x.2.1,x.2.2.1,x.2.2.2⟩:Path)) (fun s=>(s.id,s.kind,s.src,s.dst)) (fun _=>rfl)
structure Control where
 stage:(List Int)
 since:Int
 next:(List Int)
 left:Int
 deriving DecidableEq,Inhabited
def Xe (o0 o1:Own):RR:=(rCo (rX o0 1 iR) (rCo rI (rCo (rX o1 1 iR) (Zb rI)))).map (fun x=>(⟨x.1,x.2.1,x.2.2.1,x.2.2.2⟩:Control)) (fun s=>(s.stage,s.since,s.next,s.left)) (fun _=>rfl)
structure Want where
 path:Int
 wait:Int
 deriving DecidableEq,Inhabited
def Zd:RR:=(rCo rI (Zb rI)).map (fun x=>(⟨x.1,x.2⟩:Want)) (fun s=>(s.path,s.wait)) (fun _=>rfl)
structure Prio where
 path:Int
 left:Int
 deriving DecidableEq,Inhabited
def Yb:RR:=(rCo rI (Zb rI)).map (fun x=>(⟨x.1,x.2⟩:Prio)) (fun s=>(s.path,s.left)) (fun _=>rfl)
structure Lamp where
 path:Int
 colour:Int
 broken:Bool
 deriving DecidableEq,Inhabited
def Zq:RR:=(rCo rI (rCo rI (Zb rB))).map (fun x=>(⟨x.1,x.2.1,x.2.2⟩:Lamp)) (fun s=>(s.path,s.colour,s.broken)) (fun _=>rfl)
structure Note where
 second:Int
 lights:(List Int)
 sig:Int
 deriving DecidableEq,Inhabited
def Zc (o0:Own):RR:=(rCo rI (rCo (rX o0 1 iR) (Zb rI))).map (fun x=>(⟨x.1,x.2.1,x.2.2⟩:Note)) (fun s=>(s.second,s.lights,s.sig)) (fun _=>rfl)
structure Town where
 paths:(List Path)
 control:Control
 wants:(List Want)
 prio:Prio
 lamps:(List Lamp)
 power:Bool
 record:(List Note)
 books:Int
 now:Int
 deriving DecidableEq,Inhabited
def YO (o0 o1 o2 o3 o4 o5 o6:Own):RR:=(rCo (rX o0 4 Zg) (rAp 4 (Xe o1 o2) (rCo (rX o3 2 Zd) (rAp 2 Yb (rCo (rX o4 3 Zq) (rCo rB (rCo (rX o5 3 (Zc o6)) (rCo rI (Zb rI))))))))).map (fun x=>(⟨x.1,x.2.1,x.2.2.1,x.2.2.2.1,x.2.2.2.2.1,x.2.2.2.2.2.1,x.2.2.2.2.2.2.1,x.2.2.2.2.2.2.2.1,x.2.2.2.2.2.2.2.2⟩:Town)) (fun s=>(s.paths,s.control,s.wants,s.prio,s.lamps,s.power,s.record,s.books,s.now)) (fun _=>rfl)
structure L1Cur where
 b:(List Int)
 i:Int
 h:Int
 deriving DecidableEq,Inhabited
def Zm (o0:Own):RR:=(rCo (rX o0 1 yR) (rCo rI (Zb rI))).map (fun x=>(⟨x.1,x.2.1,x.2.2⟩:L1Cur)) (fun s=>(s.b,s.i,s.h)) (fun _=>rfl)
structure Part where
 stage:(List Int)
 green:Int
 deriving DecidableEq,Inhabited
def Zo (o0:Own):RR:=(rCo (rX o0 1 iR) (Zb rI)).map (fun x=>(⟨x.1,x.2⟩:Part)) (fun s=>(s.stage,s.green)) (fun _=>rfl)
structure Report where
 path:Int
 second:Int
 light:Int
 since:Int
 other:Int
 deriving DecidableEq,Inhabited
def Ye:RR:=(rCo rI (rCo rI (rCo rI (rCo rI (Zb rI))))).map (fun x=>(⟨x.1,x.2.1,x.2.2.1,x.2.2.2.1,x.2.2.2.2⟩:Report)) (fun s=>(s.path,s.second,s.light,s.since,s.other)) (fun _=>rfl)
def bs (l:List UInt8):ByteArray:=⟨l.toArray⟩
noncomputable section
def b2 {β:Type} (x:Option β):Option β:=ZG x x
def b3 {β:Type} (x:Option β):Option β:=ZG x (b2 x)
def b4 {β:Type} (x:Option β):Option β:=ZG x (b3 x)
def b5 {β:Type} (x:Option β):Option β:=ZG x (b4 x)
def b6 {β:Type} (x:Option β):Option β:=ZG x (b5 x)
def b7 {β:Type} (x:Option β):Option β:=ZG x (b6 x)
def b8 {β:Type} (x:Option β):Option β:=ZG x (b7 x)
abbrev r_i {β:Type} (l:List Int) (K:List Int->Option β):Option β:=rws iR (l.map iR.enc) K
abbrev g_i {β:Type} (l:List Int) (i:Int) (K:Int->Option β):Option β:=Zz iR (l.map iR.enc) i K
abbrev n_i {β:Type} (l:List Int) (i:Nat) (K:Int->Option β):Option β:=ZS iR (l.map iR.enc) i K
abbrev r_y {β:Type} (l:List Int) (K:List Int->Option β):Option β:=rws yR (l.map yR.enc) K
abbrev g_y {β:Type} (l:List Int) (i:Int) (K:Int->Option β):Option β:=Zz yR (l.map yR.enc) i K
abbrev r_b {β:Type} (l:List Bool) (K:List Bool->Option β):Option β:=rws bR (l.map bR.enc) K
abbrev n_b {β:Type} (l:List Bool) (i:Nat) (K:Bool->Option β):Option β:=ZS bR (l.map bR.enc) i K
abbrev r_s {β:Type} (l:List ByteArray) (K:List ByteArray->Option β):Option β:=rws sR (l.map sR.enc) K
abbrev g_s {β:Type} (l:List ByteArray) (i:Int) (K:ByteArray->Option β):Option β:=Zz sR (l.map sR.enc) i K
abbrev Za {β:Type} (l:List Path) (K:List Path->Option β):Option β:=rws Zg (l.map Zg.enc) K
abbrev Z0 {β:Type} (l:List Path) (i:Int) (K:Path->Option β):Option β:=Zz Zg (l.map Zg.enc) i K
abbrev Zi {β:Type} (l:List Want) (K:List Want->Option β):Option β:=rws Zd (l.map Zd.enc) K
abbrev Yz {β:Type} (l:List Want) (i:Int) (K:Want->Option β):Option β:=Zz Zd (l.map Zd.enc) i K
abbrev Zy {β:Type} (l:List Lamp) (K:List Lamp->Option β):Option β:=rws Zq (l.map Zq.enc) K
abbrev Qh {β:Type} (l:List Lamp) (i:Int) (K:Lamp->Option β):Option β:=Zz Zq (l.map Zq.enc) i K
abbrev ZzM {β:Type} (l:List Lamp) (i:Nat) (K:Lamp->Option β):Option β:=ZS Zq (l.map Zq.enc) i K
abbrev Zk {β:Type} (o p:Own) (l:List Note) (K:List Note->Option β):Option β:=rws (Zc o) (l.map (Zc p).enc) K
abbrev Yn {β:Type} (o p:Own) (l:List Note) (i:Int) (K:Note->Option β):Option β:=Zz (Zc o) (l.map (Zc p).enc) i K
abbrev YB {β:Type} (o p:Own) (l:List Part) (K:List Part->Option β):Option β:=rws (Zo o) (l.map (Zo p).enc) K
abbrev Zbr {β:Type} (o p:Own) (l:List Part) (i:Int) (K:Part->Option β):Option β:=Zz (Zo o) (l.map (Zo p).enc) i K
def rC {β:Type} (x:Control) (K:Control->Option β):Option β:=rws iR (x.stage.map iR.enc) fun a=>rws iR (x.next.map iR.enc) fun b=>K ⟨a,x.since,b,x.left⟩
def rT {β:Type} (o p:Own) (x:Town) (K:Town->Option β):Option β:=rws Zg (x.paths.map Zg.enc) fun a=>rws iR (x.control.stage.map iR.enc) fun b=>rws iR (x.control.next.map iR.enc) fun c=>rws Zd (x.wants.map Zd.enc) fun d=>rws Zq (x.lamps.map Zq.enc) fun e=>rws (Zc o) (x.record.map (Zc p).enc) fun f=>K ⟨a,⟨b,x.control.since,c,x.control.left⟩,d,x.prio,e,x.power,f,x.books,x.now⟩
end
end Go.Sh
