/- A pure evaluator over the model's Code. -/
import Derived.Test.YthkckbidcpmckaaGreatDoorFzB2
import Derived.Orders
set_option linter.all false
namespace Go.Fx
structure LObj where
 frz:Bool
 k:Nat
 rows:List (List AV)
structure Entry where
 ps:RF
 rs:RQ
 S:ps.τ->Option rs.τ
structure St where
 env:Nat->SV
 L:Nat->Option LObj
 G:GS
def upd {α:Type} (f:Nat->α) (n:Nat) (v:α):Nat->α:=fun i=>bif Nat.beq i n then v else f i
def put (s:St) (d:Option Nat) (v:SV):St:=
 match d with
 |some d=>{s with env:=upd s.env d v}
 |none=>s
inductive TD where
 |sc (z:Value)
 |sl (e k:Nat)
 |st (cz:List (Option Nat×Value)) (offs:List (Nat×Nat))
 |ar (n k:Nat) (cz:List (Option Nat×Value))
 |bad
def TD.size:TD->Nat
 | .sc _=>1
 | .sl _ _=>1
 | .st cz _=>cz.length
 | .ar _ _ cz=>cz.length
 | .bad=>0
def ZcL:Value->Nat×Nat
 | .int k _=>match k with
  | .i64=>(8,8)
  | .u8=>(1,1)
  | _=>(8,8)
 | .bool _=>(1,1)
 | .string _=>(16,8)
 | _=>(24,8)
def ZgZ:List (Option Nat×Value)->Nat->Nat->Nat
 | [],o,al=>(o + (al - 1)) / al * al
 | (some _,_)::r,o,_=>ZgZ r ((o + 7) / 8 * 8 + 24) 8
 | (none,v)::r,o,al=>ZgZ r ((o + ((ZcL v).2 - 1)) / (ZcL v).2 * (ZcL v).2 + (ZcL v).1) (max al (ZcL v).2)
def byA:TD->Nat
 | .sc v=>(ZcL v).1
 | .sl _ _=>24
 | .st cz _=>ZgZ cz 0 1
 | .ar _ _ cz=>ZgZ cz 0 1
 | .bad=>0
def TD.ok:TD->Bool
 | .bad=>false
 | _=>true
def YH:Value->Nat
 | .int _ _=>1
 | .bool _=>2
 | .string _=>3
 | _=>0
def K6:List (Option Nat×Value)->Option (List Nat)
 | []=>some []
 | (none,z)::r=>bif Nat.beq (YH z) 0 then none else (K6 r).map (YH z:: ·)
 | _=>none
def TD.bk:TD->List Nat
 | .sc (.bool _)=> [9]
 | .st cz _=>(K6 cz).getD []
 | _=> []
def TD.isAgg:TD->Bool
 | .st _ _=>true
 | .ar _ _ _=>true
 | _=>false
def Vz:Option Nat->Value->AV
 |none,v=>bif Yi v then .lit v else Xh
 |some k, .slice none 0 0=> .slc .own k []
 |some _,_=>Xh
def czA:List (Option Nat×Value)->List AV
 | []=> []
 | (o,v)::r=>Vz o v::czA r
def TD.zero:TD->List AV
 | .sc z=> [.lit z]
 | .sl _ k=> [.slc .own k []]
 | .st cz _=>czA cz
 | .ar _ _ cz=>czA cz
 | .bad=> []
def ZcM:List (Option Nat×Value)->List Value->List AV
 | (o,_)::r,v::vs=>Vz o v::ZcM r vs
 | _,_=> []
def K7:List (Option Nat×Value)->List Value->Bool
 | (o,_)::r,v::vs=>(Vz o v).one && K7 r vs
 | [],[]=>true
 | _,_=>false
def constA (d:TD) (v:Value):Option AV:=
 match d,v with
 | .sl _ k, .slice none 0 0=>some (.slc .own k [])
 | .st cz _, .agg cs=>bif K7 cz cs.toList then some (.agg (ZcM cz cs.toList)) else none
 | .ar _ _ cz, .agg cs=>bif K7 cz cs.toList then some (.agg (ZcM cz cs.toList)) else none
 | .sc _,v=>bif Yi v then some (.lit v) else none
 | _,_=>none
def constP (cz:List (Option Nat×Value)) (off:Option (Nat×Nat)) (v:Value):Option AV:=
 match off,v with
 |some (off,_), .agg cs=>bif K7 ((cz.drop off).take cs.size) cs.toList then some (.agg (ZcM ((cz.drop off).take cs.size) cs.toList)) else none
 |some (off,_),v=>match cz[off]? with
  |some (o,_)=>bif (Vz o v).one then some (Vz o v) else none
  |none=>none
 |none,_=>none
inductive Ex where |nrm |ex (id:Nat) |ret
structure Live where
 vs:List Nat
 ps:List (Nat×Nat×Bool)
 ks:List (Nat×Nat×Bool×Bool)
 rt:RP
 ls:List (Nat×Nat×Nat×Nat):= []
structure Ctx where
 T:Nat->TD
 C:Nat->Nat->Option Entry
 vr:Nat->Nat->Nat
 gs:Nat->Bool
 tk:Nat->Nat->Bool
 mo:Nat->Nat->Bool
 R:Nat->RR
 ro:Nat->RR
 rt:Nat->Nat->Option RA
 hb:Nat->Nat->Nat
 th:Nat->Nat->Bool
 cu:Nat->Nat->Option Entry
 lv:Nat->Option Live
 jn:Nat->Option Live
 jb:Nat->Option Live
 jr:Nat->Option Live
 nt:Nat
 N:Nat
 kp:Bool
 ao:Nat->Bool
 pl:Nat->Bool
 sg:Nat->List (Nat×Live):=fun _=> []
def okD (nt:Nat):Option Nat->Bool
 |some d=>Nat.blt d nt
 |none=>true
def okE (nt:Nat) (kp:Bool):Option Nat->Bool
 |some d=>Nat.blt d nt && !(kp && Nat.beq d 0)
 |none=>true
def Zbm {β:Type} (v:AV) (x y:Option β):Option β:=
 match v with
 | .lit (.bool b)=>cnd b x y
 | _=>none
open Classical in
noncomputable def ZF {β:Type} (x y:Option β):Option β:=if x=y then x else none
noncomputable def K8 {β:Type} (xs:List (List AV)) (x y:Option β):Option β:=
 match xs with
 | []=>ZF x y
 | _=>y
noncomputable def Zg0 {β:Type} (v:AV) (x y:Option β):Option β:=
 match v with
 | .lit (.bool b)=>cnd b x y
 | .nilq xs=>K8 xs x y
 | _=>none
def bnd {α β:Type} (x:Option α) (K:α->Option β):Option β:=x.bind K
def ifA {β:Type} (c:Prop) [Decidable c] (x:Option β):Option β:=if c then x else none
def Zeq:AV->Option AV
 | .slc _ _ xs=>some (I xs.length)
 | _=>none
def ZlZ:AV->Option AV
 | .lit (.string s)=>some (I s.size)
 | _=>none
def Own.nu:Own->Bool
 | .unq=>false
 | _=>true
def ixV (k:Nat):AV->AV->Option AV
 | .slc o k' xs, .lit (.int _ i)=>bif Nat.beq k k' then (bif o.nu then (if 0<=i then (match xs[i.toNat]? with |some c=>some (.rp (match o with | .own=>c | _=>clrs c)) |none=>none) else none) else none) else none
 | _,_=>none
def ZZ (R:RR) {β:Type} (xs:List (List AV)) (i:Nat) (K:R.τ->Option β):Option β:=
 match xs[i]? with
 |some c=>R.get c K
 |none=>none
def ZO (R:RR) {β:Type} (xs:List (List AV)) (n:Int) (K:R.τ->Option β):Option β:=
 match n with
 | .ofNat m=>ZZ R xs m K
 | .negSucc _=>none
def ZAD:Own->List AV->List AV
 | .own,c=>c
 | _,c=>clrs c
def ixK {β:Type} (R:RR) (k:Nat) (a i:AV) (K:AV->Option β):Option β:=
 match a,i with
 | .slc o k' xs, .lit (.int _ n)=>bif Nat.beq k k' then bif o.nu then ZO R xs n fun p=>K (.rp (ZAD o (R.enc p))) else none else none
 | _,_=>none
def ixT:AV->AV->Option AV
 | .lit (.string b), .lit (.int _ n)=>if 0<=n then (b.data.toList[n.toNat]?).map fun c=> .lit (.int .u8 c.toNat) else none
 | _,_=>none
def mkA (d:TD) (cs:List AV):Option AV:=
 bif d.isAgg then (if d.size<=cs.length then some (.agg (cs.take d.size)) else none) else cs.head?
def hdK {β:Type} (cs:List AV) (K:AV->Option β):Option β:=match cs with |c::_=>K c | []=>none
def mkK {β:Type} (d:TD) (cs:List AV) (K:AV->Option β):Option β:=
 bif d.isAgg then (if d.size<=cs.length then K (.agg (cs.take d.size)) else none) else hdK cs K
theorem Qn {β:Type} (d:TD) (cs:List AV) (K:AV->Option β):mkK d cs K=(mkA d cs).bind K:=by
 unfold mkK mkA hdK;cases d.isAgg with
 |true=>simp only [Ut];split <;> rfl
 |false=>cases cs <;> rfl
def Zg1 (off:Nat):AV->Option AV
 | .rp cs=>some (.rp (cs.drop off))
 | .gp i o=>some (.gp i (o + off))
 | _=>none
def Zer (op:BinOp) (k:IntKind) (x y:Int):Option AV:=
 match op with
 | .add=>some (.lit (.int k (k.wrap (x + y))))
 | .sub=>some (.lit (.int k (k.wrap (x - y))))
 | .mul=>some (.lit (.int k (k.wrap (x * y))))
 | .quo=>if y=0 then none else some (.lit (.int k (k.wrap (x.tdiv y))))
 | .rem=>if y=0 then none else some (.lit (.int k (x.tmod y)))
 | .and=>some (.lit (.int k (k.wrap (BitVec.ofInt k.bits x &&& BitVec.ofInt k.bits y).toNat)))
 | .or=>some (.lit (.int k (k.wrap (BitVec.ofInt k.bits x |||BitVec.ofInt k.bits y).toNat)))
 | .xor=>some (.lit (.int k (k.wrap (BitVec.ofInt k.bits x ^^^ BitVec.ofInt k.bits y).toNat)))
 | .eql=>some (Bl (x==y))
 | .neq=>some (Bl (x != y))
 | .lss=>some (Bl (decide (x < y)))
 | .leq=>some (Bl (decide (x<=y)))
 | .gtr=>some (Bl (decide (x > y)))
 | .geq=>some (Bl (decide (x>=y)))
 | _=>none
def Zg2 (op:BinOp) (x y:ByteArray):Option AV:=
 match op with
 | .add=>if x.size + y.size<=1099511627776 then some (Sg (x ++ y)) else none
 | .eql=>some (Bl (x.toList==y.toList))
 | .neq=>some (Bl (!(x.toList==y.toList)))
 | _=>none
def K9:AV->AV->Option Bool
 | .lit (.int k a), .lit (.int k' b)=>if k=k' then some (a==b) else none
 | .lit (.bool a), .lit (.bool b)=>some (a==b)
 | .lit (.string a), .lit (.string b)=>some (a==b)
 | _,_=>none
def VA:List Nat->List AV->List AV->Option Bool
 | [],[],[]=>some true
 |k::ks, .lit a::as, .lit b::bs=>bif Nat.beq (YH a) k && Nat.beq (YH b) k then (K9 (.lit a) (.lit b)).bind fun e=>bif e then VA ks as bs else some false else none
 | _,_,_=>none
def V0:List Nat->List AV->List AV->Bool
 | [],[],[]=>true
 |k::ks, .lit a::as, .lit b::bs=>Nat.beq (YH a) k && Nat.beq (YH b) k && (K9 (.lit a) (.lit b)).isSome && V0 ks as bs
 | _,_,_=>false
def eqV:Value->Value->Bool
 | .int _ a, .int _ b=>a==b
 | .bool a, .bool b=>a==b
 | .string a, .string b=>a==b
 | _,_=>false
def eqB:List AV->List AV->Bool
 | [.lit a],[.lit b]=>eqV a b
 | .lit a::as, .lit b::bs=>eqV a b && eqB as bs
 | _,_=>true
theorem ZAE {a b:Value} (h:(K9 (.lit a) (.lit b)).isSome=true):K9 (.lit a) (.lit b)=some (eqV a b):=by
 unfold K9 at h ⊢;split at h
 ·rename_i k x k' y e1 e2;cases e1;cases e2;split at h
  ·rename_i hk;simp [hk,eqV]
  ·cases h
 ·rename_i e1 e2;cases e1;cases e2;simp [eqV]
 ·rename_i e1 e2;cases e1;cases e2;simp [eqV]
 ·cases h
theorem Zl0:∀{ks:List Nat} {as bs:List AV},V0 ks as bs=true->VA ks as bs=some (eqB as bs)
 | [],[],[],_=>rfl
 | [],[],_::_,h=>by simp [V0] at h
 | [],_::_,_,h=>by simp [V0] at h
 | _::_,[],_,h=>by simp [V0] at h
 | _::_,_::_,[],h=>by
  unfold V0 at h;split at h <;> first | (rename_i e _;cases e;done) | (simp_all;done)
 |k::ks,a::as,b::bs,h=>by
  unfold V0 at h;split at h
  ·rename_i e;cases e
  ·rename_i k ks a as b bs e1 e2 e3;cases e1;cases e2;cases e3;simp only [Ub] at h;obtain ⟨⟨⟨h1,h2⟩,h3⟩,h4⟩:=h;have h5:=Zl0 h4;simp only [VA,h1,h2,Mz,Ut,ZAE h3,UG,h5];cases as with
   |nil=>
    cases bs with
    |nil=>
     simp only [eqB];cases eqV a b <;> rfl
    |cons b' bs=>cases ks <;> simp [VA] at h5
   |cons a' as=>
    have:eqB (.lit a::a'::as) (.lit b::bs)=(eqV a b && eqB (a'::as) bs):=by
     cases bs <;> simp [eqB]
    rw [this];cases eqV a b <;> rfl
  ·cases h
def Jt (bk:List Nat) (op:BinOp):AV->AV->Option AV
 | .lit (.int k x), .lit (.int k' y)=>
  match op with
  | .shl=>if y < 0 then none else some (.lit (.int k (k.wrap (x * 2 ^ (min y.toNat k.bits)))))
  | .shr=>if y < 0 then none else some (.lit (.int k (x.fdiv (2 ^ (min y.toNat k.bits)))))
  |op=>if k=k' then Zer op k x y else none
 | .lit (.string x), .lit (.string y)=>Zg2 op x y
 | .lit (.bool x), .lit (.bool y)=>
  match bk,op with
  | [9], .eql=>some (Bl (x==y))
  | [9], .neq=>some (Bl (x != y))
  | _,_=>none
 | .agg xs, .agg ys=>
  bif bk.isEmpty then none else match op with
  | .eql=>bif V0 bk xs ys then some (Bl (eqB xs ys)) else none
  | .neq=>bif V0 bk xs ys then some (Bl (!eqB xs ys)) else none
  | _=>none
 | _,_=>none
def unA (op:UnOp):AV->Option AV
 | .lit (.bool b)=>match op with | .not=>some (Bl (!b)) | _=>none
 | .lit (.int k n)=>match op with | .neg=>some (.lit (.int k (k.wrap (0 - n)))) | _=>none
 | _=>none
def Zaa:List (List AV)->Option (List UInt8)
 | []=>some []
 | [.lit (.int .u8 n)]::r=>(Zaa r).map fun l=>UInt8.ofNat n.toNat::l
 | _=>none
def Zes (T:Nat->TD) (src dst:TD) (a:AV):Option AV:=
 match src,dst,a with
 | .sc _, .sc (.int k _), .lit (.int _ n)=>some (.lit (.int k (k.wrap n)))
 | .sc _, .sc (.string _), .lit (.string s)=>some (Sg s)
 | .sl e k, .sc (.string _), .slc o k' xs=>
  match T e with
  | .sc (.int .u8 _)=>bif Nat.beq k 1 && Nat.beq k' 1 && o.nu then (Zaa xs).map fun l=>Sg ⟨l.toArray⟩ else none
  | _=>none
 | _,_,_=>none
def intOf? :AV->Option Int
 | .lit (.int _ n)=>some n
 | _=>none
def QL (d:Int):Option AV->Option Int
 |none=>some d
 |some a=>intOf? a
def slA (k:Nat) (a:AV) (lo hi mx:Option AV):Option AV:=
 match a with
 | .slc o k' xs=>bif o.nu && Nat.beq k k' then
   (QL 0 lo).bind fun l=>(QL xs.length hi).bind fun h=>
   match mx with
   |none=>if 0<=l/\l<=h/\h<=xs.length then some (AV.slc .shr k ((xs.take h.toNat).drop l.toNat)) else none
   |some m=>(intOf? m).bind fun m=>if 0<=l/\l=h/\h=m/\m<=xs.length/\hi.isSome=true then some (.slc .own k []) else none
  else none
 | _=>none
def slT (a:AV) (lo hi mx:Option AV):Option AV:=
 match a,mx with
 | .lit (.string s),none=>(QL 0 lo).bind fun l=>(QL s.size hi).bind fun h=>
   if 0<=l/\l<=h/\h<=s.size then some (Sg (s.extract l.toNat h.toNat)) else none
 | _,_=>none
def Q7:Own->List (List AV)->List (List AV)
 | .own,ys=>ys
 | _,ys=>ys.map clrs
def Zbn (k by':Nat):AV->AV->Option AV
 | .slc .own k1 xs, .slc o k2 ys=>bif o.nu && (Nat.beq k k1 && Nat.beq k k2) then (if (xs.length + ys.length) * by'<=140737488355328/\xs.length + ys.length<=1152921504606846976 then some (.slc .own k (xs ++ Q7 o ys)) else none) else none
 | _,_=>none
def Zet (k by':Nat):AV->AV->Option AV
 | .slc .unq k1 xs, .slc o k2 ys=>bif o.nu && (Nat.beq k k1 && Nat.beq k k2) then (if (xs.length + ys.length) * by'<=140737488355328/\xs.length + ys.length<=1152921504606846976 then some (.slc .unq k (xs ++ Q7 o ys)) else none) else none
 | _,_=>none
def Zl1:AV->AV->Option AV
 | .lit (.int k x), .lit (.int _ y)=>some (.lit (.int k (if y < x then y else x)))
 | _,_=>none
def Zl2:AV->AV->Option AV
 | .lit (.int k x), .lit (.int _ y)=>some (.lit (.int k (if y > x then y else x)))
 | _,_=>none
def Zl3 {β:Type} (bk:List Nat) (op:BinOp) (a b:AV) (K:AV->Option β):Option β:=
 match op,a,b with
 | .quo, .lit (.int k x), .lit (.int k' y)=>if k=k' then ifA (¬y=0) (K (.lit (.int k (k.wrap (x.tdiv y))))) else none
 | .rem, .lit (.int k x), .lit (.int k' y)=>if k=k' then ifA (¬y=0) (K (.lit (.int k (x.tmod y)))) else none
 | .shl, .lit (.int k x), .lit (.int _ y)=>ifA (¬y < 0) (K (.lit (.int k (k.wrap (x * 2 ^ (min y.toNat k.bits))))))
 | .shr, .lit (.int k x), .lit (.int _ y)=>ifA (¬y < 0) (K (.lit (.int k (x.fdiv (2 ^ (min y.toNat k.bits))))))
 | .add, .lit (.string x), .lit (.string y)=>ifA (x.size + y.size<=1099511627776) (K (Sg (x ++ y)))
 |op,a,b=>(Jt bk op a b).bind K
theorem Ju {β:Type} (bk:List Nat) (op:BinOp) (a b:AV) (K:AV->Option β):Zl3 bk op a b K=(Jt bk op a b).bind K:=by
 unfold Zl3;split
 ·simp only [Jt,Zer,ifA];split <;> (try split) <;> simp_all
 ·simp only [Jt,Zer,ifA];split <;> (try split) <;> simp_all
 ·simp only [Jt,ifA];split <;> simp_all
 ·simp only [Jt,ifA];split <;> simp_all
 ·simp only [Jt,Zg2,ifA];split <;> simp_all
 ·rfl
def Zl4 {β:Type} (k by':Nat) (a b:AV) (K:AV->Option β):Option β:=
 match a,b with
 | .slc .own k1 xs, .slc o k2 ys=>bif o.nu && (Nat.beq k k1 && Nat.beq k k2) then ifA ((xs.length + ys.length) * by'<=140737488355328/\xs.length + ys.length<=1152921504606846976) (K (.slc .own k (xs ++ Q7 o ys))) else none
 | _,_=>none
theorem Zl5 {β:Type} (k by':Nat) (a b:AV) (K:AV->Option β):Zl4 k by' a b K=(Zbn k by' a b).bind K:=by
 unfold Zl4 Zbn;split
 ·rename_i k1 xs o k2 ys;cases hk:o.nu && (Nat.beq k k1 && Nat.beq k k2) with
  |false=>rfl
  |true=>simp only [Ut,ifA];split <;> rfl
 ·simp_all
def Zl6 {β:Type} (k by':Nat) (a b:AV) (K:AV->Option β):Option β:=
 match a,b with
 | .slc .unq k1 xs, .slc o k2 ys=>bif o.nu && (Nat.beq k k1 && Nat.beq k k2) then ifA ((xs.length + ys.length) * by'<=140737488355328/\xs.length + ys.length<=1152921504606846976) (K (.slc .unq k (xs ++ Q7 o ys))) else none
 | _,_=>none
theorem ZAF {β:Type} (k by':Nat) (a b:AV) (K:AV->Option β):Zl6 k by' a b K=(Zet k by' a b).bind K:=by
 unfold Zl6 Zet;split
 ·rename_i k1 xs o k2 ys;cases hk:o.nu && (Nat.beq k k1 && Nat.beq k k2) with
  |false=>rfl
  |true=>simp only [Ut,ifA];split <;> rfl
 ·simp_all
def slK {β:Type} (k:Nat) (a:AV) (lo hi mx:Option AV) (K:AV->Option β):Option β:=
 match a,mx with
 | .slc o k' xs,none=>bif o.nu && Nat.beq k k' then
   match QL 0 lo,QL xs.length hi with
   |some l,some h=>ifA (0<=l/\l<=h/\h<=xs.length) (K (.slc .shr k ((xs.take h.toNat).drop l.toNat)))
   | _,_=>none
  else none
 |a,mx=>(slA k a lo hi mx).bind K
theorem Jv {β:Type} (k:Nat) (a:AV) (lo hi mx:Option AV) (K:AV->Option β):slK k a lo hi mx K=(slA k a lo hi mx).bind K:=by
 unfold slK;split
 ·rename_i o k' xs;unfold slA;simp only;cases o.nu && Nat.beq k k' with
  |false=>rfl
  |true=>
   simp only [Ut];cases QL 0 lo with
   |none=>rfl
   |some l=>
    cases QL (↑xs.length) hi with
    |none=>rfl
    |some h=>simp only [UG,ifA];split <;> rfl
 ·rfl
def Zl7 {β:Type} (a:AV) (lo hi mx:Option AV) (K:AV->Option β):Option β:=
 match a,mx with
 | .lit (.string s),none=>
   match QL 0 lo,QL s.size hi with
   |some l,some h=>ifA (0<=l/\l<=h/\h<=s.size) (K (Sg (s.extract l.toNat h.toNat)))
   | _,_=>none
 | _,_=>none
theorem Jw {β:Type} (a:AV) (lo hi mx:Option AV) (K:AV->Option β):Zl7 a lo hi mx K=(slT a lo hi mx).bind K:=by
 unfold Zl7 slT;split
 ·rename_i s;cases QL 0 lo with
  |none=>rfl
  |some l=>
   cases QL (↑s.size) hi with
   |none=>rfl
   |some h=>simp only [UG,ifA];split <;> rfl
 ·simp_all
def Y8 {β:Type} (s:ByteArray) (n:Int) (K:Int->Option β):Option β:=
 if 0<=n then (match s.data.toList[n.toNat]? with |some c=>K c.toNat |none=>none) else none
def Zl8 {β:Type} (a i:AV) (K:AV->Option β):Option β:=
 match a,i with
 | .lit (.string b), .lit (.int _ n)=>Y8 b n fun c=>K (.lit (.int .u8 c))
 | _,_=>none
theorem Q8 {β:Type} (a i:AV) (K:AV->Option β):Zl8 a i K=(ixT a i).bind K:=by
 unfold Zl8 ixT Y8;split
 ·rename_i b _ n;simp only;split
  ·cases b.data.toList[n.toNat]? <;> rfl
  ·rfl
 ·simp_all
def bst {β:Type} (xs:List (List AV)) (K:ByteArray->Option β):Option β:=(Zaa xs).bind fun l=>K ⟨l.toArray⟩
noncomputable def NN:Nat:=Classical.choose (⟨_,rfl⟩:∃n:Nat,n=4611686018427387904)
theorem Zl9:NN=4611686018427387904:=Classical.choose_spec (⟨_,rfl⟩:∃n:Nat,n=4611686018427387904)
def Zma {β:Type} (T:Nat->TD) (src dst:TD) (a:AV) (K:AV->Option β):Option β:=
 match src,dst,a with
 | .sc _, .sc (.int k _), .lit (.int _ n)=>K (.lit (.int k (k.wrap n)))
 | .sc _, .sc (.string _), .lit (.string s)=>K (Sg s)
 | .sl e k, .sc (.string _), .slc o k' xs=>
  match T e with
  | .sc (.int .u8 _)=>bif Nat.beq k 1 && Nat.beq k' 1 && o.nu then bst xs fun s=>K (Sg s) else none
  | _=>none
 | _,_,_=>none
theorem Jx {β:Type} (T:Nat->TD) (src dst:TD) (a:AV) (K:AV->Option β):Zma T src dst a K=(Zes T src dst a).bind K:=by
 unfold Zma Zes;split
 ·rfl
 ·rfl
 ·rename_i e k b o k' xs;split
  ·cases hk:Nat.beq k 1 && Nat.beq k' 1 && o.nu with
   |false=>rfl
   |true=>simp only [Ut,bst];cases Zaa xs <;> rfl
  ·rfl
 ·simp_all
def ZL (r:List AV) (off:Nat) (cs:List AV):List AV:=r.take off ++ cs ++ r.drop (off + cs.length)
def ZcN (offs:List (Nat×Nat)) (cs:List AV):List (Nat×AV)->Option (List AV)
 | []=>some cs
 | (f,a)::r=>
  match offs[f]? with
  |none=>none
  |some (off,sz)=>(cellsN sz a).bind fun as=>if off + sz<=cs.length then ZcN offs (ZL cs off as) r else none
def Zab {β:Type} (offs:List (Nat×Nat)) (cs:List AV) (ps:List (Nat×AV)) (K:List AV->Option β):Option β:=(ZcN offs cs ps).bind K
def Jy (k:Nat):Nat->Nat->List (Nat×Nat)
 | _,0=> []
 |o,n + 1=>(o,k)::Jy k (o + k) n
def ZcO (k:Nat):Nat->List (Nat×AV)->Option (List (List AV))
 | _,[]=>some []
 |i,(j,a)::r=>bif Nat.beq j i then (cellsN k a).bind fun cs=>(ZcO k (i + 1) r).map (cs:: ·) else none
def X9 (rows:List (List AV)) (i:Nat) (f:List AV->List AV):List (List AV):=rows.modify i f
def ZcP:Operand->Bool
 | .const (.slice none 0 0)=>true
 | _=>false
def Zmb:BinOp->AV->Option AV
 | .eql, .slc .shr _ xs=>some (.nilq xs)
 | .eql, .slc .own _ xs=>some (.nilq xs)
 | _,_=>none
section
variable {β:Type} (E:Ctx)
def rd (tk:Bool) (cf:Value->Option AV) (x:Operand) (s:St) (K:SV->St->Option β):Option β:=
 match x with
 | .tmp n=>
  match s.env n with
  | .val a=>bif tk then K (.val a) {s with env:=upd s.env n (.val a.clr)} else K (.val a.clr) s
  | .no=>none
  |p=>K p s
 | .const v=>(cf v).bind fun a=>K (.val a) s
 | .func f=>K (.val (.fn f [])) s
 | .global _=>none
def rd0 (x:Operand) (s:St) (K:AV->Option β):Option β:=
 match x with
 | .tmp n=>match s.env n with
  | .val a=>K a
  | _=>none
 | .const v=>match v with
  | .agg cs=>bif cs.toList.all Yi then K (.agg (cs.toList.map .lit)) else none
  |v=>bif Yi v then K (.lit v) else none
 | _=>none
def rdo (x:Option Operand) (s:St) (K:Option AV->Option β):Option β:=
 match x with
 |none=>K none
 |some x=>rd0 x s fun a=>K (some a)
def VB (tk:Bool):List Operand->List Nat->St->(List AV->St->Option β)->Option β
 | [],_,s,K=>K [] s
 |x::xs,ts,s,K=>
  rd tk (constA (E.T (ts.headD 0))) x s fun v s'=>
   match v with
   | .val a=>VB tk xs ts.tail s' fun as s''=>K ((bif tk then a else a.clr)::as) s''
   | _=>none
def Xi (tk:Bool) (cf:Nat->Value->Option AV):List (Nat×Operand)->St->(List (Nat×AV)->St->Option β)->Option β
 | [],s,K=>K [] s
 | (i,x)::xs,s,K=>
  rd tk (cf i) x s fun v s'=>
   match v with
   | .val a=>Xi tk cf xs s' fun as s''=>K ((i,a)::as) s''
   | _=>none
def Ko:List Operand->St->(List AV->St->Option β)->Option β
 | [],s,K=>K [] s
 | .tmp n::xs,s,K=>
  match s.env n with
  | .lp key 0 0=>
   match s.L key with
   |some o=>
    match o.rows with
    | [cs]=>Ko xs {s with L:=upd s.L key (some {o with frz:=true})} fun as s'=>K (.rp (clrs cs)::as) s'
    | _=>none
   |none=>none
  | .val (.rp cs)=>Ko xs s fun as s'=>K (.rp (clrs cs)::as) s'
  | _=>none
 | _,_,_=>none
def newObj (dst:Option Nat) (o:LObj) (s:St) (K:Nat->St->Option β):Option β:=
 match dst with
 |none=>none
 |some d=>match s.L d with
  |none=>K d {s with L:=upd s.L d (some o)}
  |some _=>none
def Zbo (f v:Nat) (args:List AV) (s:St) (K:SV->St->Option β):Option β:=
 match E.C f v with
 |none=>none
 |some en=>bif args.all AV.ng then bnd (en.ps.get (args,[]) en.S) fun r=>en.rs.spl r fun q=>match q.2 with
  | []=>K (.val q.1) s
  | _=>none
 else none
def Zac (f v:Nat) (args:List AV) (s:St) (K:SV->St->Option β):Option β:=
 bif E.gs f then (match E.C f v with
  |none=>none
  |some en=>bnd (en.ps.get (args,s.G) en.S) fun r=>K (.val (en.rs.enc r).1) {s with G:=(en.rs.enc r).2})
 else Zbo E f v args s K
def Zmc:AV->Option (Nat×List AV)
 | .fn f caps=>some (f,caps)
 | _=>none
def Q9 (d:TD) (mo:Bool) (p:SV) (s:St) (K:SV->St->Option β):Option β:=
 match p with
 | .lp key i off=>
  match s.L key with
  |some o=>
   ZZ (E.ro key) o.rows i fun p=>mkK d (((E.ro key).enc p).drop off) fun a=>
    bif mo then K (.val a) {s with L:=upd s.L key (some {o with rows:=o.rows.set i (clrs ((E.ro key).enc p))})} else K (.val a.clr) s
  |none=>none
 | .val (.gp id off)=>match s.G[id]? with
  |some r=>mkK d (r.drop off) fun a=>K (.val a.clr) s
  |none=>none
 | .val (.rp cs)=>mkK d cs fun a=>K (.val (bif mo then a else a.clr)) s
 | _=>none
def nolv (key:Nat) (f:Nat->SV):Nat->SV:=fun t=>match f t with
 | .lv k i off ag=>bif Nat.beq k key then .no else .lv k i off ag
 |x=>x
def Qo (d:TD) (p:SV) (a:AV) (s:St) (K:SV->St->Option β):Option β:=
 match p with
 | .lp key i off=>
  match s.L key with
  |some o=>
   bif o.frz then none else
   ZZ (E.ro key) o.rows i fun p=>(cellsN d.size a).bind fun cs=>if off + d.size<=((E.ro key).enc p).length then
     K .no {s with env:=nolv key s.env,L:=upd s.L key (some {o with rows:=o.rows.set i (ZL ((E.ro key).enc p) off cs)})} else none
  |none=>none
 | .val (.gp id off)=>match s.G[id]? with
  |some r=>(cellsN d.size a).bind fun cs=>if off + d.size<=r.length then
    K .no {s with G:=X9 s.G id fun r=>ZL r off cs} else none
  |none=>none
 | _=>none
def QM (b:Builtin) (args:List Operand) (tys:List Nat) (tk:Bool) (s:St) (K:SV->St->Option β):Option β:=
 match b,args,tys with
 | .len,[x],t::_=>
  match E.T t with
  | .sl _ _=>match x with
   | .tmp n=>match s.env n with
    | .val a=>(Zeq a).bind fun r=>K (.val r) s
    | .la key=>match s.L key with
     |some o=>K (.val (I o.rows.length)) s
     |none=>none
    | _=>none
   | _=>none
  | .sc (.string _)=>rd0 x s fun a=>(ZlZ a).bind fun r=>K (.val r) s
  | _=>none
 | .append,[x,y],[t,t']=>
  bif !(Nat.beq t t') then none else match E.T t with
  | .sl e k=>rd true (constA (E.T t)) x s fun a s1=>rd tk (constA (E.T t)) y s1 fun b s2=>
   match a,b with
   | .val a, .val b=>Zl4 k (byA (E.T e)) a b fun r=>K (.val r) s2
   | _,_=>none
  | _=>none
 | .min,[x,y],_=>rd0 x s fun a=>rd0 y s fun b=>(Zl1 a b).bind fun r=>K (.val r) s
 | .max,[x,y],_=>rd0 x s fun a=>rd0 y s fun b=>(Zl2 a b).bind fun r=>K (.val r) s
 | _,_,_=>none
def opK (tk mo:Bool) (vr:Nat) (o:Oper) (s:St) (K:SV->St->Option β):Option β:=
 match o.op with
 | .move x=>rd tk (constA (E.T o.type)) x s K
 | .assign x=>rd tk (constA (E.T o.type)) x s K
 | .pick c a b=>rd0 c s fun c=>Zbm c (rd tk (constA (E.T o.type)) a s K) (rd tk (constA (E.T o.type)) b s K)
 | .alloc t=>bif !(E.T t).ok then none else newObj o.dst ⟨false,(E.T t).size,[(E.T t).zero]⟩ s fun d s'=>K (.lp d 0 0) s'
 | .box t x=>bif !(E.T t).ok then none else rd tk (constA (E.T t)) x s fun v s1=>
  match v with
  | .val a=>(cellsN (E.T t).size a).bind fun cs=>newObj o.dst ⟨false,(E.T t).size,[cs]⟩ s1 fun d s'=>K (.lp d 0 0) s'
  | _=>none
 | .build t parts=>
  match E.T t with
  | .st cz offs=>Xi tk (fun i=>constP cz offs[i]?) parts.toList s fun ps s'=>Zab offs (czA cz) ps fun cs=>K (.val (.agg cs)) s'
  | .ar n k cz=>Xi tk (fun i=>constP cz (Jy k 0 n)[i]?) parts.toList s fun ps s'=>Zab (Jy k 0 n) (czA cz) ps fun cs=>K (.val (.agg cs)) s'
  | _=>none
 | .buildSlice t n parts=>
  match E.T t with
  | .sl e k=>bif Nat.beq n 0 && parts.toList.isEmpty then K (.val (.slc .own k [])) s else bif !(Nat.ble (n * k) 16777216) then none else Xi tk (fun _=>constA (E.T e)) parts.toList s fun ps s'=>(ZcO k 0 ps).bind fun rows=>bif Nat.beq rows.length n && Nat.blt 0 n then K (.val (.slc .own k rows)) s' else none
  | _=>none
 | .load t x=>bif !(E.T t).ok then none else rd mo (fun _=>none) x s fun p s'=>Q9 E (E.T t) mo p s' K
 | .store t x v=>bif !(E.T t).ok then none else rd tk (constA (E.T t)) v s fun v s1=>
  match v with
  | .val a=>rd false (fun _=>none) x s1 fun p s2=>Qo E (E.T t) p a s2 K
  | _=>none
 | .nilCheck x=>rd false (fun _=>none) x s fun p s'=>
  match p with
  | .lp k i off=>K (.lp k i off) s'
  | .val (.gp i off)=>K (.val (.gp i off)) s'
  | .val (.rp cs)=>K (.val (.rp cs)) s'
  | _=>none
 | .binOp op t x y _=>bif ZcP y then (match E.T t with
   | .sl _ _=>rd0 x s fun a=>(Zmb op a).bind fun r=>K (.val r) s
   | _=>none)
  else rd0 x s fun a=>rd0 y s fun b=>Zl3 (E.T t).bk op a b fun r=>K (.val r) s
 | .unOp op _ x=>rd0 x s fun a=>(unA op a).bind fun r=>K (.val r) s
 | .convert src dst x=>rd0 x s fun a=>Zma E.T (E.T src) (E.T dst) a fun r=>K (.val r) s
 | .makeFunc (.func f) first captured=>bif first.isEmpty then Ko captured.toList s fun cs s'=>K (.val (.fn f cs)) s' else none
 | .makeSlice t l c=>
  match E.T t with
  | .sl e k=>rd0 l s fun l=>rd0 c s fun c=>
   match l,c with
   | .lit (.int _ n), .lit (.int _ m)=>ifA (0<=n/\n=m/\n * byA (E.T e)<=140737488355328/\n<=1152921504606846976)
     (newObj o.dst ⟨false,k,List.replicate n.toNat (E.T e).zero⟩ s fun d s'=>K (.la d) s')
   | _,_=>none
  | _=>none
 | .slice t x lo hi mx=>
  rdo lo s fun lo=>rdo hi s fun hi=>rdo mx s fun mx=>rd0 x s fun a=>
   match E.T t with
   | .sl _ k=>slK k a lo hi mx fun r=>K (.val r) s
   | .sc (.string _)=>Zl7 a lo hi mx fun r=>K (.val r) s
   | _=>none
 | .fieldAddr t x f=>
  match E.T t with
  | .st _ offs=>match offs[f]? with
   |some (off,_)=>rd tk (fun _=>none) x s fun p s'=>
    match p with
    | .lp key i o=>K (.lp key i (o + off)) s'
    | .val a=>(Zg1 off a).bind fun r=>K (.val r) s'
    | _=>none
   |none=>none
  | _=>none
 | .indexAddr t x i=>
  match E.T t with
  | .sl e k=>rd0 i s fun i=>rd tk (constA (E.T t)) x s fun p s'=>
   match p with
   | .la key=>match s.L key with
    |some o=>bif Nat.beq o.k k then match i with
     | .lit (.int _ n)=>ifA (0<=n/\n < o.rows.length) (K (.lp key n.toNat 0) s')
     | _=>none
     else none
    |none=>none
   | .val a=>ixK (E.R e) k a i fun r=>K (.val r) s'
   | _=>none
  | .ar n k _=>rd0 i s fun i=>rd false (fun _=>none) x s fun p s'=>
   match p with
   | .lp key 0 off=>match i with
    | .lit (.int _ j)=>ifA (0<=j/\j < n) (K (.lp key 0 (off + j.toNat * k)) s')
    | _=>none
   | _=>none
  | _=>none
 | .index t x i=>
  match E.T t with
  | .sc (.string _)=>rd0 i s fun i=>rd0 x s fun a=>Zl8 a i fun c=>K (.val c) s
  | _=>none
 | .field t (.tmp n) f=>
  match E.T t with
  | .st _ offs=>match offs[f]? with
   |some (off,sz)=>match s.env n with
    | .val (.agg cs)=>bif Nat.blt 1 sz then ifA (off + sz<=cs.length) (K (.val (.agg (clrs ((cs.drop off).take sz)))) s) else match cs[off]? with
     |some a=>K (.val a.clr) s
     |none=>none
    | _=>none
   |none=>none
  | _=>none
 | .extract (.tmp n) i=>
  match s.env n with
  | .val (.tup vs)=>match vs[i]? with
   |some a=>bif tk then K (.val a) {s with env:=upd s.env n (.val (.tup (vs.modify i AV.clr)))} else K (.val a.clr) s
   |none=>none
  | _=>none
 | .call c=>
  match c.callee with
  | .builtin b=>QM E b c.args.toList c.argTypes.toList tk s K
  | .value (.func f)=>VB E tk c.args.toList c.argTypes.toList s fun as s'=>Zac E f vr as s' K
  | .value (.tmp n)=>
   match s.env n with
   | .val a=>(Zmc a).bind fun fc=>VB E tk c.args.toList c.argTypes.toList s fun as s'=>Zbo E fc.1 vr (as ++ clrs fc.2) s' K
   | _=>none
  | _=>none
 | _=>none
end
def TD.ag (d:TD):Ag:=bif d.isAgg then .st d.size else .hd
section
variable {β:Type} (E:Ctx)
def Zbp (d:TD) (p:SV) (s:St) (K:SV->St->Option β):Option β:=
 match p with
 | .lp key i off=>
  match s.L key with
  |some o=>ZZ (E.ro key) o.rows i fun p=>mkK d (((E.ro key).enc p).drop off) fun _=>K (.lv key i off d.ag) s
  |none=>none
 | _=>none
def Zmd:AV->Bool
 | .lit _=>true
 | _=>false
def AV.lits:AV->Bool
 | .lit _=>true
 | .agg cs=>cs.all Zmd
 | _=>false
def Zbq:Ag->Ag->Bool
 | .hd, .hd=>true
 | .st a, .st b=>Nat.beq a b
 | _,_=>false
def Zme (d:TD) (key i off e k m o2:Nat) (a:AV) (s:St) (K:SV->St->Option β):Option β:=
 bif !a.lits then none else match s.L key with
 |some ob=>bif ob.frz then none else ZZ (E.ro key) ob.rows i fun p=>hdK (((E.ro key).enc p).drop off) fun c=>match c with
  | .slc .unq k' xs=>bif Nat.beq k k' then ZZ (E.R e) xs m fun q=>(cellsN d.size a).bind fun cs=>if o2 + d.size<=((E.R e).enc q).length then
    K .no {s with L:=upd s.L key (some {ob with rows:=ob.rows.set i (ZL ((E.ro key).enc p) off [.slc .unq k (xs.set m (ZL ((E.R e).enc q) o2 cs))])})} else none else none
  | _=>none
 |none=>none
def Zmf (d:TD) (key i off:Nat) (s:St) (K:AV->St->Option β):Option β:=
 match s.L key with
 |some o=>ZZ (E.ro key) o.rows i fun p=>if off + d.size<=((E.ro key).enc p).length then mkK d ((((E.ro key).enc p).drop off).take d.size) fun a=>
   K a {s with L:=upd s.L key (some {o with rows:=o.rows.set i (ZL ((E.ro key).enc p) off (clrs ((((E.ro key).enc p).drop off).take d.size)))})} else none
 |none=>none
def VC (d:TD) (p:SV) (s:St) (K:AV->Option β):Option β:=
 match p with
 | .val a=>K a.clr
 | .la key=>match s.L key with
  |some o=>K (.slc .shr o.k (Yh o.rows))
  |none=>none
 | .lv key i off ag=>bif Zbq ag d.ag then
   match s.L key with
   |some o=>ZZ (E.ro key) o.rows i fun p=>mkK d (((E.ro key).enc p).drop off) fun a=>K a.bor
   |none=>none
  else none
 | _=>none
def Zg3 (d:TD) (key i off:Nat) (s:St) (K:AV->Option β):Option β:=
 match s.L key with
 |some o=>ZZ (E.ro key) o.rows i fun p=>mkK d (((E.ro key).enc p).drop off) fun a=>K a.bor
 |none=>none
def Jz:List Operand->List Nat->St->(List AV->Option β)->Option β
 | [],_,_,K=>K []
 |x::xs,ts,s,K=>
  match x with
  | .tmp n=>VC E (E.T (ts.headD 0)) (s.env n) s fun a=>Jz xs ts.tail s fun as=>K (a::as)
  | .const v=>(constA (E.T (ts.headD 0)) v).bind fun a=>Jz xs ts.tail s fun as=>K (a.clr::as)
  | _=>none
def Zbr (f v:Nat) (xs:List Operand) (ts:List Nat) (s:St) (K:SV->St->Option β):Option β:=
 Jz E xs ts s fun as=>match E.C f v with
  |none=>none
  |some en=>bif as.all AV.ng then bnd (en.ps.get (as,[]) en.S) fun r=>match (en.rs.enc r).2 with
   | []=>ifA ((en.rs.enc r).1.okU=true) (K (.val (en.rs.enc r).1.toU) s)
   | _=>none
  else none
def Zg4 {γ:Type} (r:AV×GS) (K:Value->AV->Option γ):Option γ:=
 match r with
 | (.tup [.lit u,a],[])=>K u a
 | _=>none
def Zmg (f v:Nat) (x y:Operand) (t:Nat) (s:St) (K:SV->St->Option β):Option β:=
 rd0 y s fun b=>match E.cu f v with
 |none=>none
 |some en=>bif !b.ng then none else match x with
  | .tmp n=>match s.env n with
   | .la key=>match s.L key with
    |some o=>bif o.frz then none else
     bnd (en.ps.get ([.slc .unq o.k o.rows,b.clr],[]) en.S) fun r=>Zg4 (en.rs.enc r) fun u a=>match a with
      | .slc .unq k rows=>bif Nat.beq k o.k then K (.val (.lit u)) {s with env:=nolv key s.env,L:=upd s.L key (some {o with rows:=rows})} else none
      | _=>none
    |none=>none
   | .lv key i off ag=>bif !(Zbq ag (E.T t).ag) then none else match s.L key with
    |some o=>bif o.frz then none else
     ZZ (E.ro key) o.rows i fun p=>mkK (E.T t) ((((E.ro key).enc p).drop off).take (E.T t).size) fun a0=>bif !a0.ng then none else
     bnd (en.ps.get ([a0,b.clr],[]) en.S) fun r=>Zg4 (en.rs.enc r) fun u a=>(cellsN (E.T t).size a).bind fun cs=>bif Nat.ble (off + (E.T t).size) ((E.ro key).enc p).length then
      K (.val (.lit u)) {s with L:=upd s.L key (some {o with rows:=o.rows.set i (ZL ((E.ro key).enc p) off cs)})} else none
    |none=>none
   | _=>none
  | _=>none
def Zmh (f v g:Nat) (x:Operand) (s:St) (K:SV->St->Option β):Option β:=
 match E.cu f v with
 |none=>none
 |some en=>match x with
  | .tmp n=>match s.env n with
   | .la key=>match s.L key with
    |some o=>bif o.frz then none else
     bnd (en.ps.get ([.slc .unq o.k o.rows, .fn g []],[]) en.S) fun r=>match en.rs.enc r with
     | (.tup [.tup [], .slc .unq k rows],[])=>bif Nat.beq k o.k then K (.val (.tup [])) {s with env:=nolv key s.env,L:=upd s.L key (some {o with rows:=rows})} else none
     | _=>none
    |none=>none
   | _=>none
  | _=>none
def JA (n:Nat) (s:St):Option St:=
 match s.env n with
 | .lv key 0 0 (.st m)=>match s.L key with
  |some o=>bif o.frz then none else match o.rows with
   | [row]=>bif Nat.beq row.length m then some {s with env:=upd s.env n (.val (.agg row)),L:=upd s.L key (some {o with rows:= [clrs row]})} else none
   | _=>none
  |none=>none
 | _=>none
def Zbs (key:Nat) (f:Nat->SV):Nat->SV:=fun t=>match f t with
 | .lp k i off=>bif Nat.beq k key then .no else .lp k i off
 | .la k=>bif Nat.beq k key then .no else .la k
 | .lv k i off ag=>bif Nat.beq k key then .no else .lv k i off ag
 |x=>x
def Zmi (n:Nat) (s:St):Option St:=
 match s.env n with
 | .la key=>match s.L key with
  |some ob=>bif ob.frz then none else some {s with env:=upd (Zbs key s.env) n (.val (.slc .own ob.k (ZY ob.rows))),L:=upd s.L key none}
  |none=>none
 | .val _=>some s
 | _=>none
def Zg5 (n:Nat) (s:St):Option St:=
 match s.env n with
 | .la key=>match s.L key with
  |some ob=>bif ob.frz then none else some {s with env:=upd (Zbs key s.env) n (.val (.slc .unq ob.k ob.rows)),L:=upd s.L key none}
  |none=>none
 | .val _=>some s
 | _=>none
def Zg6 (n:Nat) (d:Option Nat) (s:St):Option St:=
 match d,s.env n with
 |some d, .val (.slc .unq k rows)=>match s.L d with
  |none=>some {s with env:=upd s.env n (.la d),L:=upd s.L d (some ⟨false,k,rows⟩)}
  |some _=>none
 | _, .la _=>some s
 | _,_=>none
def Zmj (n:Nat) (d:Option Nat) (s:St):Option St:=
 (match d with
 |some d'=>match s.L d' with
  |none=>some s
  |some _=>Zg5 d' s
 |none=>some s).bind fun s'=>Zg6 n d s'
def rAv:RA:={τ:=AV,enc:=id,get:=fun a _ K=>K a,ok':=fun a _ _ _ _=>⟨a,Le.refl a,fun _=>rfl⟩}
def Zmk:Nat->RR
 | 0=>Zep
 | 1=>Zg rAv
 |n + 2=>rCo rAv (Zmk (n + 1))
def opU (hb vr:Nat) (o:Oper) (s:St) (K:SV->St->Option β):Option β:=
 match hb,o.op with
 | 1, .load t x=>bif !(E.T t).ok then none else rd false (fun _=>none) x s fun p s'=>Zbp E (E.T t) p s' K
 | 1, .box t (.tmp n)=>bif !(E.T t).ok then none else rd true (constA (E.T t)) (.tmp n) s fun v s1=>
  match v with
  | .val (.agg cs)=>bif Nat.beq cs.length (E.T t).size then newObj o.dst ⟨false,(E.T t).size,[cs]⟩ s1 fun d s'=>K (.lp d 0 0) {s' with env:=upd s'.env n (.lv d 0 0 (.st (E.T t).size))} else none
  | _=>none
 | 2, .call c=>match c.callee with
  | .value (.func f)=>bif E.gs f then none else Zbr E f vr c.args.toList c.argTypes.toList s K
  | _=>none
 | 3, .call c=>match c.callee with
  | .value (.func f)=>match c.args.toList,c.argTypes.toList with
   | [x,y],t::_=>Zmg E f vr x y t s K
   | _,_=>none
  | _=>none
 | 4, .assign x=>rd true (constA (E.T o.type)) x s fun v s1=>
  match v with
  | .val (.slc .unq k xs)=>K (.val (.slc .own k xs)) s1
  | _=>none
 | 7, .call c=>match c.callee,c.args.toList,c.argTypes.toList with
  | .builtin .len,[.tmp n],t::_=>match E.T t with
   | .sl _ _=>VC E (E.T t) (s.env n) s fun a=>(Zeq a).bind fun l=>K (.val l) s
   | _=>none
  | _,_,_=>none
 | 8, .indexAddr t (.tmp n) x=>match E.T t with
  | .sl e k=>rd0 x s fun iv=>match s.env n,iv with
   | .lv key i off .hd, .lit (.int ik m)=>VC E (E.T t) (.lv key i off .hd) s fun a=>ixK (E.R e) k a (.lit (.int ik m)) fun _=>K (.lv key i off (.el e k m.toNat 0)) s
   | _,_=>none
  | _=>none
 | 9, .fieldAddr t (.tmp n) f=>match E.T t with
  | .st _ offs=>match offs[f]? with
   |some (fo,_)=>match s.env n with
    | .lv key i off (.el e k m o)=>K (.lv key i off (.el e k m (o + fo))) s
    | _=>none
   |none=>none
  | _=>none
 | 10, .load t (.tmp n)=>bif !(E.T t).ok then none else match s.env n with
  | .lv key i off (.el e k m o2)=>Zg3 E (.sl e k) key i off s fun a=>ixK (E.R e) k a (.lit (.int .i64 (m:Int))) fun p=>match p with
   | .rp cs=>mkK (E.T t) (cs.drop o2) fun b=>bif b.lits then K (.val b) s else none
   | _=>none
  | _=>none
 | 11, .store t (.tmp n) v=>bif !(E.T t).ok then none else rd0 v s fun a=>match s.env n with
  | .lv key i off (.el e k m o2)=>Zme E (E.T t) key i off e k m o2 a s K
  | _=>none
 | 12, .load t (.tmp n)=>bif !(E.T t).ok then none else match s.env n with
  | .lp key i off=>Zmf E (E.T t) key i off s fun a s2=>K (.val a.frz) s2
  | _=>none
 | 16, .assign (.const _)=>K .no s
 | 17, .buildSlice t n parts=>match E.T t with
  | .sl _ k=>bif Nat.beq n 0 && parts.toList.isEmpty then K (.val (.slc .unq k [])) s else none
  | _=>none
 | 18, .call c=>match c.callee,c.args.toList,c.argTypes.toList with
  | .builtin .append,[x,y],[t,t']=>bif !(Nat.beq t t') then none else match E.T t with
   | .sl e k=>rd true (constA (E.T t)) x s fun a s1=>rd (Nat.beq vr 1) (constA (E.T t)) y s1 fun b s2=>
    match a,b with
    | .val a, .val b=>Zl6 k (byA (E.T e)) a b fun r=>K (.val r) s2
    | _,_=>none
   | _=>none
  | _,_,_=>none
 | 20, .move (.tmp n)=>(Zg6 n o.dst s).bind fun s'=>opK E false false vr o s' K
 | 20, .assign (.tmp n)=>(Zmj n o.dst s).bind fun s'=>opK E false false vr o s' K
 | 21, .call c=>match c.callee,c.args.toList with
  | .value (.func f),[x, .func g]=>Zmh E f vr g x s K
  | _,_=>none
 | 22, .move (.tmp n)=>(Zmi n s).bind fun s'=>opK E true false vr o s' K
 | 23, .move (.tmp n)=>(Zg5 n s).bind fun s'=>opK E true false vr o s' K
 | 25, .store _ (.tmp q) _=>match s.env q with
  | .lp key _ _=>match s.L key with
   |some ob=>opK {E with ro:=fun _=>Zmk ob.k} true false vr o s K
   |none=>none
  | _=>none
 | 6, .store _ _ (.tmp n)=>(JA n s).bind fun s'=>opK E true false vr o s' K
 | _,_=>none
def Zml (d:Option Nat) (v:SV) (s:St) (K:SV->St->Option β):Option β:=
 match d,v with
 |some d, .val (.slc .unq k rows)=>match s.L d with
  |none=>K (.la d) {s with L:=upd s.L d (some ⟨false,k,rows⟩)}
  |some _=>none
 | _,_=>none
end
def svA:SV->AV
 | .val a=>a
 | _=>Xh
def XS (b:Bool):SV:= .val (Bl b)
section
variable {β:Type} (E:Ctx)
def opM (id i:Nat) (o:Oper) (s:St) (K:SV->St->Option β):Option β:=
 bif Nat.beq (E.hb id i) 0 then opK E (E.tk id i) (E.mo id i) (E.vr id i) o s K else opU E (E.hb id i) (E.vr id i) o s K
def Xp (id i:Nat) (o:Oper) (s:St) (K:SV->St->Option β):Option β:=
 match E.rt id i with
 |none=>opM E id i o s K
 |some A=>opM E id i o s fun v s'=>match v with
  | .val a=>A.get a fun x=>K (.val (A.enc x)) s'
  | _=>none
def opR (id i:Nat) (o:Oper) (s:St) (K:SV->St->Option β):Option β:=
 bif E.th id i then Xp E id i o s fun v s'=>Zml o.dst v s' K else Xp E id i o s K
def ZC (id:Nat) (ops:Array Oper) (i:Nat) (o:Oper) (s:St) (K:St->Option β):Option β:=
  match o.guard with
  |none=>bif okE E.nt E.kp o.dst then opR E id i o s fun v s'=>K (put s' o.dst v) else none
  |some (j,want)=>
    match (ops[j]?).bind (·.dst) with
    |none=>none
    |some t=>bif !okE E.nt E.kp o.dst then none else
      match s.env t with
      | .val (.tup [])=>K (put s o.dst (.val Xh))
      | _=>Zbm (svA (s.env t))
        (bif want then opR E id i o {s with env:=upd s.env t (XS true)} fun v s'=>K (put s' o.dst v)
         else K (put {s with env:=upd s.env t (XS true)} o.dst (.val Xh)))
        (bif want then K (put {s with env:=upd s.env t (XS false)} o.dst (.val Xh))
         else opR E id i o {s with env:=upd s.env t (XS false)} fun v s'=>K (put s' o.dst v))
def Zeu (id:Nat) (ops:Array Oper):Nat->List Oper->St->(St->Option β)->Option β
 | _,[],s,K=>K s
 |i,o::rest,s,K=>ZC E id ops i o s fun s'=>Zeu id ops (i + 1) rest s' K
end
def Live.packV (lv:Live) (s:St):Option (List AV):=lv.vs.mapM fun t=>match s.env t with
  | .val a=>some a
  | _=>none
def Live.packO (lv:Live) (s:St):Option (List (List (List AV))):=lv.ks.mapM fun (key,k,arr,frz)=>match s.L key with
  |none=>none
  |some o=>bif Nat.beq o.k k && (o.frz==frz) && (arr || Nat.beq o.rows.length 1) then some o.rows else none
def Live.packP (lv:Live) (s:St):Bool:=lv.ps.all fun (t,key,arr)=>(lv.ks.any fun q=>Nat.beq q.1 key) && match s.env t with
  | .lp k 0 0=>Nat.beq k key && !arr
  | .la k=>Nat.beq k key && arr
  | _=>false
def Live.packL (lv:Live) (s:St):Bool:=lv.ls.all fun (t,key,i,off)=>(lv.ks.any fun q=>Nat.beq q.1 key) && match s.env t with
  | .lv k i' off' .hd=>Nat.beq k key && Nat.beq i' i && Nat.beq off' off
  | _=>false
def Live.pack (lv:Live) (s:St):Option Pk:=
 bif lv.packP s && lv.packL s then (lv.packV s).bind fun vs=>(lv.packO s).bind fun ks=>some (vs,ks,s.G) else none
def Live.env (lv:Live) (v:List AV) (t:Nat):SV:=
 match lv.vs.idxOf? t with
 |some i=> .val (v.getD i Xh)
 |none=>match lv.ps.find? fun p=>Nat.beq p.1 t with
  |some (_,key,arr)=>bif arr then .la key else .lp key 0 0
  |none=>match lv.ls.find? fun p=>Nat.beq p.1 t with
   |some (_,key,i,off)=> .lv key i off .hd
   |none=> .no
def Live.obj (lv:Live) (v:List (List (List AV))) (key:Nat):Option LObj:=
 match lv.ks.findIdx? fun p=>Nat.beq p.1 key with
 |none=>none
 |some i=>match lv.ks[i]? with
  |none=>none
  |some (_,k,_,frz)=>some ⟨frz,k,v.getD i []⟩
def Live.unpack (lv:Live) (v:Pk):St:=⟨lv.env v.1,lv.obj v.2.1,v.2.2⟩
def Zf {V β:Type} (F:(V->Option β)->V->Option β):Nat->V->Option β
 | 0,_=>none
 |n + 1,v=>F (Zf F n) v
def VD {V β:Type} (J:V->Option β) (B:(V->Option β)->Option β):Option β:=B J
def Zad:Code->Option Nat
 | .region id _ _=>some id
 | .seq a b=>match Zad a with |some i=>some i |none=>Zad b
 | .cond _ a b=>match Zad a with |some i=>some i |none=>Zad b
 | .block _ c=>Zad c
 | .loop c=>Zad c
 | _=>none
def Zae (E:Ctx) (o:Oper):Bool:=
 match o.op with
 | .move _ | .assign _ | .pick .. | .load .. | .binOp .. | .unOp .. | .convert .. | .slice .. | .fieldAddr .. | .indexAddr .. | .index .. | .buildSlice .. | .build .. | .extract .. | .field .. | .nilCheck _=>true
 | .call c=>match c.callee with
  | .builtin .len=>true
  | .builtin .min=>true
  | .builtin .max=>true
  | .value (.func f)=> !E.gs f
  | _=>false
 | _=>false
def Zbt (ops:Array Oper) (j:Nat):Bool:=
 (List.range j).all fun i=>ops.toList.zipIdx.any fun (p,m)=>Nat.blt i m && Nat.ble m j && p.after.any fun e=>Region.binds .any e && Nat.beq e.on i
def VE:Operand->List Nat
 | .tmp n=> [n]
 | _=> []
def YU (tk:Bool) (o:Oper):List Nat:=
 match o.guard,o.op with
  |none, .move (.tmp n)=>bif tk then [n] else []
  |none, .assign (.tmp n)=>bif tk then [n] else []
  |none, .build _ ps=>bif tk then ps.toList.flatMap fun p=>VE p.2 else []
  |none, .buildSlice _ _ ps=>bif tk then ps.toList.flatMap fun p=>VE p.2 else []
  |none, .call c=>match c.callee,c.args.toList with
   | .builtin .append,[.tmp n,y]=>n::(bif tk then VE y else [])
   | _,_=> []
  | _,_=> []
def Zmm (o:Oper):Bool:=
 match o.guard,o.op with
  |none, .move (.tmp _)=>true
  |none, .assign (.tmp _)=>true
  |none, .build _ _=>true
  |none, .buildSlice _ _ _=>true
  | _,_=>false
def Zg7 (o:Oper):Bool:=
 match o.guard,o.op with
  |none, .call c=>match c.callee,c.args.toList with
   | .builtin .append,[.tmp _,_]=>true
   | _,_=>false
  | _,_=>false
def YV (hb:Nat) (o:Oper):Bool:=
 match hb,o.op with
 | 0,_=>true
 | 1, .load .. =>true
 | 2,_=>true
 | _,_=>false
def JB (E:Ctx) (id:Nat) (o:Oper) (j:Nat):Bool:=(Zae E o && !E.mo id j && (!E.tk id j || (Zmm o && Nat.beq (E.hb id j) 0)) && YV (E.hb id j) o && !E.th id j) ||
 (Zg7 o && !E.mo id j && Nat.beq (E.hb id j) 0 && !E.th id j)
def Qp (E:Ctx) (id j:Nat) (o:Oper):Bool:=
 Nat.beq (E.hb id j) 0 && !E.th id j && match o.guard,o.op with
 |none, .alloc _=>true
 | _,_=>false
def YW (E:Ctx) (id j:Nat) (o:Oper):Bool:=
 (Nat.beq (E.hb id j) 0 || Nat.beq (E.hb id j) 6) && !E.th id j && (E.rt id j).isNone && match o.guard,o.op,o.dst with
 |none, .store _ _ _,none=>true
 | _,_,_=>false
def XT:SV->Bool
 | .val (.gp _ _)=>true
 | _=>false
def Yk (o:Oper) (s:St):Bool:=
 match o.op with
 | .load _ (.tmp n)=>XT (s.env n)
 | _=>false
def Qq (E:Ctx) (id j:Nat) (o:Oper):Bool:=
 Nat.beq (E.hb id j) 0 && !E.th id j && !E.tk id j && (E.rt id j).isNone && match o.guard,o.op with
 |none, .call c=>match c.callee with
  | .value (.func f)=>E.gs f
  | _=>false
 | _,_=>false
def Zmn (o:Oper):Bool:=
 match o.op with
 | .load .. =>false
 | _=>true
def Xz (E:Ctx) (ops:Array Oper):Bool:=ops.toList.any fun o=>match o.op with
 | .call c=>match c.callee with
  | .value (.func f)=>E.gs f
  | _=>false
 | _=>false
def Zg8 (E:Ctx) (id i:Nat) (p o:Oper):Bool:=
 Nat.beq (E.hb id i) 0 && !E.th id i && !E.tk id i && (E.rt id i).isNone && match p.guard,p.op,p.dst with
 |none, .extract (.tmp n) _,some d=>o.op.operands.toList.all fun | .tmp t=> !Nat.beq t n && !Nat.beq t d | _=>true
 | _,_,_=>false
def JC (E:Ctx) (id i j:Nat) (p o:Oper):Bool:=Nat.beq (E.hb id j) 0 && Zg8 E id i p o
def exT (E:Ctx) (id i:Nat) (p:Oper):Option (Nat×Nat×Nat):=
 bif Nat.beq (E.hb id i) 0 && !E.th id i && E.tk id i && (E.rt id i).isNone then match p.guard,p.op,p.dst with
 |none, .extract (.tmp n) k,some d=>some (n,k,d)
 | _,_,_=>none else none
def exC (E:Ctx) (id i:Nat) (p:Oper):Option (Nat×Nat×Nat):=
 bif Nat.beq (E.hb id i) 0 && !E.th id i && !E.tk id i && (E.rt id i).isNone then match p.guard,p.op,p.dst with
 |none, .extract (.tmp n) k,some d=>some (n,k,d)
 | _,_,_=>none else none
def Kp (E:Ctx) (id i j:Nat) (p o:Oper):Bool:=
 match exT E id i p with
 |none=>false
 |some (n,k,d)=>match exC E id j o with
  |some (n',k',d')=>(!Nat.beq n' n || !Nat.beq k' k) && (!Nat.beq d' d && (!Nat.beq d' n && !Nat.beq d n') && !Nat.beq d n)
  |none=>Qp E id j o && (match o.dst with |some d'=> !Nat.beq d' d && !Nat.beq d' n |none=>false)
def Qr (ops:Array Oper) (l:List Nat) (o:Oper):Bool:=
 l.all fun n=> !(o.looksAt ops).any (Nat.beq n) && (match o.dst with |some d=> !Nat.beq n d |none=>true)
def Zev (ops:Array Oper):Nat->Oper->Nat->Bool
 | 0,o,i=>o.after.any fun e=>Region.binds .any e && Nat.beq e.on i
 |n + 1,o,i=>o.after.any fun e=>Region.binds .any e && (Nat.beq e.on i || match ops[e.on]? with
  |some p=>Zev ops n p i
  |none=>false)
def Kq (ops:Array Oper) (o:Oper) (i:Nat):Bool:=Zev ops 3 o i
def YP (o:Oper):List (Nat×Bool):=
 (match o.op with
  | .load _ (.tmp q)=> [(q,true)]
  | _=>o.op.operands.toList.filterMap fun | .tmp t=>some (t,false) | _=>none) ++ (match o.dst with |some d=> [(d,false)] |none=> [])
def Zew:Op->Bool
 | .move (.tmp _)=>true
 | .fieldAddr _ (.tmp _) _=>true
 | .binOp .. =>true
 | .build .. =>true
 | .load _ (.tmp _)=>true
 | _=>false
def Zg9:Op->Bool
 | .move (.tmp _)=>true
 | _=>false
def Zha (l:List Operand) (n:Nat):Bool:=l.all fun | .tmp t=> !Nat.beq t n | _=>true
def Zaf (E:Ctx) (ops:Array Oper) (id i:Nat) (p o:Oper):Bool:=
 Nat.beq (E.hb id i) 0 && !E.th id i && (!E.tk id i || Zg9 p.op) && !E.mo id i && (E.rt id i).isNone && p.guard.isNone && Zew p.op &&
 (match p.dst with |some d=>Zha o.op.operands.toList d && Zha p.op.operands.toList d |none=>false) &&
 (p.op.operands.toList.all fun | .tmp t=>Zha o.op.operands.toList t | _=>true) &&
 ops.toList.zipIdx.all fun (q,m)=> !Nat.blt i m || (YP p).all fun x=>match q.dst with |some d=> !Nat.beq d x.1 |none=>true
def XU (s:St) (k:Nat) (x:Nat×Bool):Bool:=
 match s.env x.1 with
 | .lv _ _ _ _=>false
 | .lp k' _ _=> !x.2 || !Nat.beq k' k
 | .val _=>true
 | _=> !x.2
def Zbu (E:Ctx) (id:Nat) (ops:Array Oper) (j:Nat) (o:Oper):List (Nat×Bool):=
 ops.toList.zipIdx.flatMap fun (p,i)=>bif Nat.blt i j && !(Kq ops o i || JC E id i j p o) then YP p else []
def Zrd (s:St) (o:Oper) (l:List (Nat×Bool)):Bool:=
 match o.op with
 | .store _ (.tmp t) _=>match s.env t with
  | .lp k _ _=>l.all (XU s k)
  | _=>l.isEmpty
 | _=>l.isEmpty
def Zre (s:St) (o:Oper) (l:List (Nat×Bool)):Bool:=
 match o.op with
 | .store _ _ (.tmp n)=>match s.env n with
  | .lv k _ _ _=>l.all (XU s k)
  | _=>false
 | _=>false
def Zex (E:Ctx) (id:Nat) (ops:Array Oper) (j:Nat) (o:Oper) (s:St):Bool:=YW E id j o && !(Zbt ops j || (Zrd s o (Zbu E id ops j o) && (Nat.beq (E.hb id j) 0 || Zre s o (Zbu E id ops j o))))
def ZcQ (E:Ctx) (id:Nat) (ops:Array Oper):Bool:=
 ops.toList.zipIdx.all fun (o,j)=>o.after.all (fun e=> !Region.binds .any e || Nat.blt e.on j) &&
  (Zbt ops j || ((JB E id o j || Qp E id j o || YW E id j o || (Qq E id j o && Xz E ops)) &&
  ops.toList.zipIdx.all fun (p,i)=> !(Nat.blt i j) || (Kq ops o i ||
   (Kp E id i j p o || (Qq E id i p && Xz E ops && JB E id o j && Oper.apart ops p o && Qr ops (YU (E.tk id j) o) p) || JB E id p i && (bif YW E id j o then ((JC E id i j p o || Zaf E ops id i p o) && (!Xz E ops || Zmn p)) else (Oper.apart ops p o && Qr ops (YU (E.tk id i) p) o && (Qp E id j o || Qr ops (YU (E.tk id j) o) p)))))))
noncomputable def Kr (E:Ctx) (id:Nat) (ops:Array Oper) (i:Nat) (o:Oper) {β:Type} (s:St) (K:St->Option β):Option β:=bif Zex E id ops i o s || Xz E ops && Yk o s then none else ZC E id ops i o s K
noncomputable def Zey (E:Ctx) (id:Nat) (ops:Array Oper) {β:Type}:Nat->List Oper->St->(St->Option β)->Option β
 | _,[],s,K=>K s
 |i,o::rest,s,K=>Kr E id ops i o s fun s'=>Zey E id ops (i + 1) rest s' K
noncomputable def ZcR (E:Ctx) (id:Nat) (ops:Array Oper) {β:Type} (K:St->Option β):List (Nat×Live)->Nat->List Oper->St->Option β
 | [],i,l,s=>Zeu E id ops i l s K
 | (m,lv)::r,i,l,s=>VD (fun x=>ZcR E id ops K r (i + m) (l.drop m) (lv.unpack (lv.rt.enc x))) fun J=>Zeu E id ops i (l.take m) s fun s'=>(lv.pack s').bind fun v=>lv.rt.get v J
noncomputable def Zmo (E:Ctx) (id:Nat) (ops:Array Oper) (draw:Bool) {β:Type} (s:St) (K:St->Option β):Option β:=bif draw then Zey E id ops 0 ops.toList s K else ZcR E id ops K (E.sg id) 0 ops.toList s
noncomputable def Zhb {β:Type}:List (Option β)->Option β
 | []=>none
 | [x]=>x
 |x::y::r=>ZF x (Zhb (y::r))
def chk {γ:Type} (b:Bool) (x y:γ):γ:=bif b then x else y
def Zhc {γ:Type} (l:List Nat) (a:γ) (b:Nat->List Nat->γ):γ:=
 match l with
 | []=>a
 |i::is=>b i is
noncomputable def ZcS (E:Ctx) (id:Nat) (ops:Array Oper) {β:Type}:Nat->Array Bool->St->(St->Option β)->Option β
 | 0,listed,s,K=>Zhc (Region.ready .any ops listed) (K s) fun _ _=>none
 |fuel + 1,listed,s,K=>Zhc (Region.ready .any ops listed) (K s) fun i is=>Zhb ((i::is).map fun i=>match ops[i]? with
   |none=>none
   |some o=>ZC E id ops i o s fun s'=>ZcS E id ops fuel (listed.setIfInBounds i true) s' K)
def Zrf (E:Ctx) (c:Code):Bool:=match Zad c with |some i=>E.pl i |none=>false
def Zrg {β:Type} (b:Bool) (s:St) (body:St->(St->Option β)->Option β) (L:St->Option β):Option β:=bif b then body s L else L s
noncomputable def YQ (E:Ctx):Code->{β:Type}->St->(Ex->St->Option β)->Option β
 | .skip,_,s,K=>K .nrm s
 | .region id ops draw,_,s,K=>chk (!draw || ZcQ E id ops)
   (match E.jr id with
   |none=>Zmo E id ops draw s (K .nrm)
   |some lv=>VD (fun x=>K .nrm (lv.unpack (lv.rt.enc x))) fun J=>Zmo E id ops draw s fun s'=>(lv.pack s').bind fun v=>lv.rt.get v J)
   (bif E.ao id then (match E.jr id with
   |none=>ZcS E id ops ops.size (Array.replicate ops.size false) s (K .nrm)
   |some lv=>VD (fun x=>K .nrm (lv.unpack (lv.rt.enc x))) fun J=>ZcS E id ops ops.size (Array.replicate ops.size false) s fun s'=>(lv.pack s').bind fun v=>lv.rt.get v J) else none)
 | .seq a b,_,s,K=>YQ E a s fun e s'=>match e with
  | .nrm=>YQ E b s' K
  |e=>K e s'
 | .cond c a b,_,s,K=>
  match c with
  | .tmp t=>
   match E.jn t with
   |none=>Zg0 (svA (s.env t)) (YQ E a {s with env:=upd s.env t (XS true)} K) (YQ E b {s with env:=upd s.env t (XS false)} K)
   |some lv=>VD (fun x=>K .nrm (lv.unpack (lv.rt.enc x))) fun J=>
     Zg0 (svA (s.env t))
      (YQ E a {s with env:=upd s.env t (XS true)} fun e s'=>match e with
       | .nrm=>(lv.pack s').bind fun v=>lv.rt.get v J
       |e=>K e s')
      (YQ E b {s with env:=upd s.env t (XS false)} fun e s'=>match e with
       | .nrm=>(lv.pack s').bind fun v=>lv.rt.get v J
       |e=>K e s')
  | _=>none
 | .block id c,_,s,K=>
  match E.jb id with
  |none=>YQ E c s fun e s'=>match e with
   | .ex i=>bif Nat.beq i id then K .nrm s' else K (.ex i) s'
   |e=>K e s'
  |some lv=>VD (fun x=>K .nrm (lv.unpack (lv.rt.enc x))) fun J=>YQ E c s fun e s'=>match e with
   | .ex i=>bif Nat.beq i id then (lv.pack s').bind fun v=>lv.rt.get v J else K (.ex i) s'
   | .nrm=>(lv.pack s').bind fun v=>lv.rt.get v J
   |e=>K e s'
 | .loop c,_,s,K=>
  match (Zad c).bind E.lv with
  |none=>none
  |some lv=>Zrg (Zrf E c) s (fun s K1=>YQ E c s fun e s'=>match e with
     | .nrm=>K1 s'
     |e=>K e s') fun s=>(lv.pack s).bind fun v=>lv.rt.get v
    (Zf (fun rec x=>YQ E c (lv.unpack (lv.rt.enc x)) fun e s'=>match e with
     | .nrm=>(lv.pack s').bind fun v'=>lv.rt.get v' rec
     |e=>K e s') E.N)
 | .exit id,_,s,K=>K (.ex id) s
 | .ret,_,s,K=>K .ret s
 | _,_,_,_=>none
def Zbv (E:Ctx):List ResultVar->St->Option (List AV×GS)
 | [],s=>some ([],s.G)
 | .tmp t::r,s=>
  match s.env t with
  | .val a=>(Zbv E r {s with env:=upd s.env t (.val a.clr)}).map fun x=>(a::x.1,x.2)
  | .la key=>match s.L key,r with
   |some o,[]=>bif o.frz then none else some ([.slc .own o.k o.rows],s.G)
   | _,_=>none
  | .lp key 0 0=>match s.L key,r with
   |some o,[]=>match o.rows with
    | [cs]=>bif o.frz then none else some ([.gp s.G.length 0],s.G ++ [cs])
    | _=>none
   | _,_=>none
  | _=>none
 | .cell t ty::r,s=>
  match s.env t with
  | .lp key 0 0=>match s.L key with
   |some o=>match o.rows with
    | [cs]=>bif (E.T ty).ok then (mkA (E.T ty) cs).bind fun a=>(Zbv E r {s with L:=upd s.L key (some {o with rows:= [clrs cs]})}).map fun x=>(a::x.1,x.2) else none
    | _=>none
   |none=>none
  | _=>none
def Zmp:List AV->AV
 | [a]=>a
 |l=> .tup l
def Zez (g:GS) (x:List AV×GS):GS:=bif g.isEmpty && x.1.all AV.ng then [] else x.2
noncomputable def ZeA (E:Ctx) (fn:Func) (Q:RQ) (args:List AV) (g:GS):Option Q.τ:=
 match fn.body with
 |none=>none
 |some c=>YQ E c ⟨fun t=>match args[t]? with |some a=> .val a |none=> .no,fun _=>none,g⟩ fun e s=>match e with
  | .ex _=>none
  | _=>(Zbv E fn.results.toList s).bind fun x=>Q.get (Zmp x.1,Zez g x) some
structure Hints where
 tk:List (Nat×Nat):= []
 mo:List (Nat×Nat):= []
 vr:List ((Nat×Nat)×Nat):= []
 ro:List (Nat×RR):= []
 rt:List ((Nat×Nat)×RA):= []
 hb:List ((Nat×Nat)×Nat):= []
 th:List (Nat×Nat):= []
 ao:List Nat:= []
 pl:List Nat:= []
 lv:List (Nat×Live):= []
 jn:List (Nat×Live):= []
 jb:List (Nat×Live):= []
 jr:List (Nat×Live):= []
 sg:List (Nat×List (Nat×Live)):= []
def Zmq:List Nat->Nat->Bool
 | [],_=>false
 |a::r,x=>Nat.beq a x || Zmq r x
def Zhd:List (Nat×Nat)->Nat->Nat->Bool
 | [],_,_=>false
 | (a,b)::r,x,y=>(Nat.beq a x && Nat.beq b y) || Zhd r x y
universe u
def V1 {α:Type u}:List (Nat×α)->Nat->Option α
 | [],_=>none
 | (a,b)::r,x=>bif Nat.beq a x then some b else V1 r x
def Zag {α:Type u}:List ((Nat×Nat)×α)->Nat->Nat->Option α
 | [],_,_=>none
 | ((a,c),b)::r,x,y=>bif Nat.beq a x && Nat.beq c y then some b else Zag r x y
def Zmr:List ((Nat×Nat)×Nat)->Nat->Nat->Nat
 | [],_,_=>0
 | ((a,c),b)::r,x,y=>bif Nat.beq a x && Nat.beq c y then b else Zmr r x y
def Zms:List (Nat×RR)->Nat->RR
 | [],_=>ZAA
 | (a,b)::r,x=>bif Nat.beq a x then b else Zms r x
def Zbw (T:Nat->TD) (cs us:List ((Nat×Nat)×Entry)) (gs:Nat->Bool) (R:List (Nat×RR)) (h:Hints) (nt N:Nat) (kp:Bool:=false):Ctx:=
 ⟨T,Zag cs,Zmr h.vr,gs,Zhd h.tk,Zhd h.mo,Zms R,Zms h.ro,Zag h.rt,Zmr h.hb,Zhd h.th,Zag us,V1 h.lv,V1 h.jn,V1 h.jb,V1 h.jr,nt,N,kp,Zmq h.ao,Zmq h.pl,fun i=>(V1 h.sg i).getD []⟩
end Go.Fx
