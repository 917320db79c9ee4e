/- Part of the proof: see the last text of the claim. -/
import Derived.Test.YthkckbidcpmckaaGreatDoorFzZC
import Derived.Test.YthkckbidcpmckaaGreatDoorFzZK0
set_option linter.all false
namespace Go.Sh
open Go.Fx
def bs (l:List UInt8):ByteArray:=⟨l.toArray⟩
abbrev W (n:Int):Int:=IntKind.i64.wrap n
abbrev iR:RR:=Zg rI
abbrev yR:RR:=Zg rY
abbrev bR:RR:=Zg rB
abbrev sR:RR:=Zg rS
structure Path where
 id:Int
 kind:Int
 src:Int
 dst:Int
 deriving DecidableEq,Inhabited
def Ze:RR:=(rCo rI (rCo rI (rCo rI (Zg rI)))).map (fun x=>(⟨x.1,x.2.1,x.2.2.1,x.2.2.2⟩:Path)) (fun s=>(s.id,s.kind,s.src,s.dst)) (fun _=>rfl)
structure Control where
 stage:(List Int)
 since:Int
 next:(List Int)
 left:Int
 deriving DecidableEq,Inhabited
def XD (o0 o1:Own):RR:=(rCo (rX o0 1 iR) (rCo rI (rCo (rX o1 1 iR) (Zg rI)))).map (fun x=>(⟨x.1,x.2.1,x.2.2.1,x.2.2.2⟩:Control)) (fun s=>(s.stage,s.since,s.next,s.left)) (fun _=>rfl)
structure Want where
 path:Int
 wait:Int
 deriving DecidableEq,Inhabited
def Zc:RR:=(rCo rI (Zg rI)).map (fun x=>(⟨x.1,x.2⟩:Want)) (fun s=>(s.path,s.wait)) (fun _=>rfl)
structure Prio where
 path:Int
 left:Int
 deriving DecidableEq,Inhabited
def V4:RR:=(rCo rI (Zg rI)).map (fun x=>(⟨x.1,x.2⟩:Prio)) (fun s=>(s.path,s.left)) (fun _=>rfl)
structure Lamp where
 path:Int
 colour:Int
 broken:Bool
 deriving DecidableEq,Inhabited
def Zl:RR:=(rCo rI (rCo rI (Zg rB))).map (fun x=>(⟨x.1,x.2.1,x.2.2⟩:Lamp)) (fun s=>(s.path,s.colour,s.broken)) (fun _=>rfl)
structure Note where
 second:Int
 lights:(List Int)
 sig:Int
 deriving DecidableEq,Inhabited
def Zb (o0:Own):RR:=(rCo rI (rCo (rX o0 1 iR) (Zg rI))).map (fun x=>(⟨x.1,x.2.1,x.2.2⟩:Note)) (fun s=>(s.second,s.lights,s.sig)) (fun _=>rfl)
structure Town where
 paths:(List Path)
 control:Control
 wants:(List Want)
 prio:Prio
 lamps:(List Lamp)
 power:Bool
 record:(List Note)
 books:Int
 now:Int
 deriving DecidableEq,Inhabited
def YD (o0 o1 o2 o3 o4 o5 o6:Own):RR:=(rCo (rX o0 4 Ze) (rAp 4 (XD o1 o2) (rCo (rX o3 2 Zc) (rAp 2 V4 (rCo (rX o4 3 Zl) (rCo rB (rCo (rX o5 3 (Zb o6)) (rCo rI (Zg rI))))))))).map (fun x=>(⟨x.1,x.2.1,x.2.2.1,x.2.2.2.1,x.2.2.2.2.1,x.2.2.2.2.2.1,x.2.2.2.2.2.2.1,x.2.2.2.2.2.2.2.1,x.2.2.2.2.2.2.2.2⟩:Town)) (fun s=>(s.paths,s.control,s.wants,s.prio,s.lamps,s.power,s.record,s.books,s.now)) (fun _=>rfl)
structure Evt where
 kind:Int
 path:Int
 n:Int
 on:Bool
 deriving DecidableEq,Inhabited
def Znp:RR:=(rCo rI (rCo rI (rCo rI (Zg rB)))).map (fun x=>(⟨x.1,x.2.1,x.2.2.1,x.2.2.2⟩:Evt)) (fun s=>(s.kind,s.path,s.n,s.on)) (fun _=>rfl)
structure Report where
 path:Int
 second:Int
 light:Int
 since:Int
 other:Int
 deriving DecidableEq,Inhabited
def Vc:RR:=(rCo rI (rCo rI (rCo rI (rCo rI (Zg rI))))).map (fun x=>(⟨x.1,x.2.1,x.2.2.1,x.2.2.2.1,x.2.2.2.2⟩:Report)) (fun s=>(s.path,s.second,s.light,s.since,s.other)) (fun _=>rfl)
structure Part where
 stage:(List Int)
 green:Int
 deriving DecidableEq,Inhabited
def ZI (o0:Own):RR:=(rCo (rX o0 1 iR) (Zg rI)).map (fun x=>(⟨x.1,x.2⟩:Part)) (fun s=>(s.stage,s.green)) (fun _=>rfl)
noncomputable section
def b2 {β:Type} (x:Option β):Option β:=ZF x x
def b3 {β:Type} (x:Option β):Option β:=ZF x (b2 x)
def b4 {β:Type} (x:Option β):Option β:=ZF x (b3 x)
def b5 {β:Type} (x:Option β):Option β:=ZF x (b4 x)
def b6 {β:Type} (x:Option β):Option β:=ZF x (b5 x)
def b7 {β:Type} (x:Option β):Option β:=ZF x (b6 x)
def b8 {β:Type} (x:Option β):Option β:=ZF x (b7 x)
abbrev r_i {β:Type} (l:List Int) (K:List Int->Option β):Option β:=rws iR (l.map iR.enc) K
abbrev g_i {β:Type} (l:List Int) (i:Int) (K:Int->Option β):Option β:=ZO iR (l.map iR.enc) i K
abbrev n_i {β:Type} (l:List Int) (i:Nat) (K:Int->Option β):Option β:=ZZ iR (l.map iR.enc) i K
abbrev r_b {β:Type} (l:List Bool) (K:List Bool->Option β):Option β:=rws bR (l.map bR.enc) K
abbrev n_b {β:Type} (l:List Bool) (i:Nat) (K:Bool->Option β):Option β:=ZZ bR (l.map bR.enc) i K
abbrev r_s {β:Type} (l:List ByteArray) (K:List ByteArray->Option β):Option β:=rws sR (l.map sR.enc) K
abbrev g_s {β:Type} (l:List ByteArray) (i:Int) (K:ByteArray->Option β):Option β:=ZO sR (l.map sR.enc) i K
abbrev Za {β:Type} (l:List Path) (K:List Path->Option β):Option β:=rws Ze (l.map Ze.enc) K
abbrev ZM {β:Type} (l:List Path) (i:Int) (K:Path->Option β):Option β:=ZO Ze (l.map Ze.enc) i K
abbrev ZsV {β:Type} (l:List Path) (i:Nat) (K:Path->Option β):Option β:=ZZ Ze (l.map Ze.enc) i K
abbrev Zj {β:Type} (l:List Want) (K:List Want->Option β):Option β:=rws Zc (l.map Zc.enc) K
abbrev Yo {β:Type} (l:List Want) (i:Int) (K:Want->Option β):Option β:=ZO Zc (l.map Zc.enc) i K
abbrev ZsW {β:Type} (l:List Want) (i:Nat) (K:Want->Option β):Option β:=ZZ Zc (l.map Zc.enc) i K
abbrev Zv {β:Type} (l:List Lamp) (K:List Lamp->Option β):Option β:=rws Zl (l.map Zl.enc) K
abbrev YY {β:Type} (l:List Lamp) (i:Int) (K:Lamp->Option β):Option β:=ZO Zl (l.map Zl.enc) i K
abbrev ZhN {β:Type} (l:List Lamp) (i:Nat) (K:Lamp->Option β):Option β:=ZZ Zl (l.map Zl.enc) i K
abbrev Zm {β:Type} (o p:Own) (l:List Note) (K:List Note->Option β):Option β:=rws (Zb o) (l.map (Zb p).enc) K
abbrev Z9 {β:Type} (o p:Own) (l:List Note) (i:Int) (K:Note->Option β):Option β:=ZO (Zb o) (l.map (Zb p).enc) i K
abbrev ZsX {β:Type} (o p:Own) (l:List Note) (i:Nat) (K:Note->Option β):Option β:=ZZ (Zb o) (l.map (Zb p).enc) i K
abbrev Z5 {β:Type} (o p:Own) (l:List Part) (K:List Part->Option β):Option β:=rws (ZI o) (l.map (ZI p).enc) K
abbrev Xk {β:Type} (o p:Own) (l:List Part) (i:Int) (K:Part->Option β):Option β:=ZO (ZI o) (l.map (ZI p).enc) i K
def rC {β:Type} (x:Control) (K:Control->Option β):Option β:=rws iR (x.stage.map iR.enc) fun a=>rws iR (x.next.map iR.enc) fun b=>K ⟨a,x.since,b,x.left⟩
abbrev r_I {β:Type} (o p:Own) (l:List (List Int)) (K:List (List Int)->Option β):Option β:=rws (Zg (rX o 1 iR)) (l.map (Zg (rX p 1 iR)).enc) K
abbrev g_I {β:Type} (o p:Own) (l:List (List Int)) (i:Int) (K:List Int->Option β):Option β:=ZO (Zg (rX o 1 iR)) (l.map (Zg (rX p 1 iR)).enc) i K
def tU {β:Type} (x:Town) (K:List Path->List Int->List Int->List Want->List Lamp->List Note->Option β):Option β:=rws Ze (YK (x.paths.map Ze.enc)) fun (a:List Path)=>rws iR (YK (x.control.stage.map iR.enc)) fun (b:List Int)=>rws iR (YK (x.control.next.map iR.enc)) fun (c:List Int)=>rws Zc (YK (x.wants.map Zc.enc)) fun (d:List Want)=>rws Zl (YK (x.lamps.map Zl.enc)) fun (e:List Lamp)=>rws (Zb Own.unq) (YK (x.record.map (Zb Own.own).enc)) fun (f:List Note)=>K a b c d e f
def bU {β:Type} (a:List Path) (b c:List Int) (d:List Want) (e:List Lamp) (f:List Note) (K:List Path->List Int->List Int->List Want->List Lamp->List Note->Option β):Option β:=rws Ze (Yh (a.map Ze.enc)) fun (a:List Path)=>rws iR (Yh (b.map iR.enc)) fun (b:List Int)=>rws iR (Yh (c.map iR.enc)) fun (c:List Int)=>rws Zc (Yh (d.map Zc.enc)) fun (d:List Want)=>rws Zl (Yh (e.map Zl.enc)) fun (e:List Lamp)=>rws (Zb Own.shr) (Yh (f.map (Zb Own.unq).enc)) fun (f:List Note)=>K a b c d e f
abbrev aT (r:Town):AV:=AV.agg [AV.slc Own.own 4 (r.paths.map Ze.enc),AV.slc Own.own 1 (r.control.stage.map iR.enc),I r.control.since,AV.slc Own.own 1 (r.control.next.map iR.enc),I r.control.left,AV.slc Own.own 2 (r.wants.map Zc.enc),I r.prio.path,I r.prio.left,AV.slc Own.own 3 (r.lamps.map Zl.enc),Bl r.power,AV.slc Own.own 3 (r.record.map (Zb Own.own).enc),I r.books,I r.now]
def rT {β:Type} (o p:Own) (x:Town) (K:Town->Option β):Option β:=rws Ze (x.paths.map Ze.enc) fun a=>rws iR (x.control.stage.map iR.enc) fun b=>rws iR (x.control.next.map iR.enc) fun c=>rws Zc (x.wants.map Zc.enc) fun d=>rws Zl (x.lamps.map Zl.enc) fun e=>rws (Zb o) (x.record.map (Zb p).enc) fun f=>K ⟨a,⟨b,x.control.since,c,x.control.left⟩,d,x.prio,e,x.power,f,x.books,x.now⟩
end
end Go.Sh
