/- New variables, struct and slice literals: each as one operation of a region. -/
import Derived.Test.YthkckbidcpmckaaGreatDoorFzN
import Derived.Great.BuildSlice
set_option linter.all false
namespace Go.Fx
section
variable {P:Program} {GE:Glob} {nt:Nat} {T:Nat->TD} {β:Type} {K:SV->St->Option β} {r:β} {o:Oper} {s:St}
theorem ZBp {v:Value} (h:Yi v=true):Ks v v=true:=by
 cases v <;> first | (simp [Yi] at h;done) |simp [Ks]
theorem ZmM (hT:TOk P T) {t:Nat} (h:(T t).ok=true):∃i z,P.info? t=some i/\i.size=(T t).size/\i.zero=some z/\zOk (T t) z=true:=by
 have h0:=hT t;unfold Qs at h0;cases hd:T t with
 |sc z=>
  simp only [hd] at h0;obtain ⟨_,i,h3,h4,h5,h6⟩:=h0;exact ⟨i,z,h3,h4,h5,by simp [zOk,ZBp h6,h6]⟩
 |sl e k=>
  simp only [hd] at h0;obtain ⟨h1,⟨i,h3,h4,h5⟩,_⟩:=h0;exact ⟨i,_,h3,h4,h5,rfl⟩
 |st cz offs=>
  simp only [hd] at h0;obtain ⟨_,i,z,h3,h4,h5,h6⟩:=h0;exact ⟨i,z,h3,h4,h5,h6⟩
 |ar n k cz=>
  simp only [hd] at h0;obtain ⟨_,i,z,h3,h4,h5,h6⟩:=h0;exact ⟨i,z,h3,h4,h5,h6⟩
 |bad=>rw [hd] at h;cases h
theorem ZBq {ob:LObj} (h:newObj o.dst ob s (fun d s'=>K (.lp d 0 0) s')=some r)
  (hrun:∀{D:Nat->Prop} {Pr0:Nat->Nat->Prop} {w0:World} {a:Act} {w:World} {ow:Nat->Option Lab} {Pr:Nat->Nat->Prop} {B:Nat->Nat} {γ:List Nat},Inv GE D Pr0 w0 s (ZP a) w ow Pr B γ->
   ∃vs e F,(execOp a.eval o).run P w= .ok (.value (.pointer (some ⟨w.heap.size,0,none⟩))) (w.alloc (.cells vs e))/\Reps w Pr γ w0.heap.size ob.rows.flatten vs.toList F/\F.Nodup/\∀b∈F,ow b=some .pd)
  (hz:ob.frz=false) (hk:∀r∈ob.rows,r.length=ob.k) (hm:ob.rows.length<=maxLen):∃sv s1,K sv s1=some r/\ZU P GE nt o s sv s1:=by
 unfold newObj at h;split at h
 ·cases h
 ·rename_i d hd;split at h
  ·rename_i hL;refine ⟨_,_,h,fun D Pr0 w0 a w ⟨ow,Pr,B,γ,hi,hdf,hn⟩ hok next Q hnext=> ?_⟩;obtain ⟨vs,e,F,h1,h2,h3,h4⟩:=hrun hi;have h5:=hi.newObj (e:=e) hL hz h2 h3 h4 hk hm;exact Ya h1 (hnext _ _ (Z2 h5 hdf hn hok ⟨ob,ZE _ _ _,by simp [ZE]⟩))
  ·cases h
theorem ZBr (hT:TOk P T) {t:Nat} (ho:o.op= .alloc t) (hok:(T t).ok=true)
  (h:newObj o.dst ⟨false,(T t).size,[(T t).zero]⟩ s (fun d s'=>K (.lp d 0 0) s')=some r):∃sv s1,K sv s1=some r/\ZU P GE nt o s sv s1:=by
 obtain ⟨i,z,h1,h2,h3,h4⟩:=ZmM hT hok;have hl:((T t).zero).length=(T t).size:=by
  obtain ⟨h5,h6⟩:=Zbz (w:=default) (Pr:=fun _ _=>True) (γ:= []) (base:=0) h4;rw [←h5.length_eq];simpa using h6
 refine ZBq h (fun {D Pr0 w0 a w ow Pr B γ} hi=> ?_) rfl (by simpa using hl) (by simp [maxLen]);obtain ⟨h5,h6⟩:=Zbz (w:=w) (Pr:=Pr) (γ:=γ) (base:=w0.heap.size) h4;refine ⟨z.cells,t,[],?_,by simpa using h5,UE,by simp⟩;simp [execOp,ho,Instr.alloc,zeroValue,typeInfo,h1,h3,newVar,newRow]
theorem ZBs {t:Nat} {x:Operand} {tk:Bool} {cf:Value->Option AV} (hcf:CfOk cf) (ho:o.op= .box t x)
  (h:rd tk cf x s (fun v s1=>match v with
  | .val a=>(cellsN (T t).size a).bind fun cs=>newObj o.dst ⟨false,(T t).size,[cs]⟩ s1 fun d s'=>K (.lp d 0 0) s'
  | _=>none)=some r):∃sv s1,K sv s1=some r/\ZU P GE nt o s sv s1:=by
 obtain ⟨sv,s1,h,hr⟩:=Xj (GE:=GE) hcf h;split at h
 case h_2=>cases h
 rename_i av;obtain ⟨cs,hcs,h⟩:=ZG h;unfold newObj at h;split at h
 ·cases h
 ·rename_i d hd;split at h
  ·rename_i hL;refine ⟨_,_,h,fun D Pr0 w0 a w ⟨ow,Pr,B,γ,hi,hdf,hn⟩ hok next Q hnext=> ?_⟩;obtain ⟨ow1,h1,_,F,f1,f2,f3,f4⟩:=hr.ok hi;obtain ⟨c1,c2,c3⟩:=f1.cellsN hcs;have h5:=h1.newObj (ob:=⟨false,(T t).size,[cs]⟩) (e:=t) (vs:=(a.eval x).cells) (F:=F) hL rfl (by simpa using c2) f2 f3 (by simpa using c3) (by simp [maxLen]);refine Ya ?_ (hnext _ _ (Z2 h5 hdf hn hok ⟨_,ZE _ _ _,rfl⟩));simp [execOp,ho,Instr.box,newVar,newRow,ZE]
  ·cases h
theorem ZBt (z:Array Value) (hz:0 < z.size) (n:Nat):(madeCells z (n * z.size)).toList=(List.replicate n z.toList).flatten:=by
 apply UV;intro j;have hf:∀(n:Nat) (j:Nat),(List.replicate n z.toList).flatten[j]? =if j < n * z.size then z[j % z.size]? else none:=by
  intro n
  induction n with
  |zero=>intro j;simp
  |succ n ih=>
   intro j;rw [MO,UM];by_cases hj:j < z.size
   ·rw [UZ (by simpa using hj),Ul (by rw [UX];omega),Nat.mod_eq_of_lt hj];simp
   ·rw [Mi (by simpa using hj),ih];have e:j % z.size=(j - z.size) % z.size:=by
     conv=>lhs;rw [←Nat.sub_add_cancel (Nat.le_of_not_lt hj)]
     rw [Nat.add_mod_right]
    simp only [Ue];rw [e];by_cases hlt:j < (n + 1) * z.size
    ·rw [Ul hlt,Ul (by rw [UX] at hlt;omega)]
    ·rw [Uf hlt,Uf (by rw [UX] at hlt;omega)]
 rw [hf];have hm:=Nat.mod_lt j hz;by_cases hj:j < n * z.size
 ·simp [madeCells,hj,M9,hm]
 ·simp [madeCells,hj]
theorem ZrC {w:World} {Pr:Nat->Nat->Prop} {γ:List Nat} {base:Nat} {cs:List AV} {vs:List Value} (h:Reps w Pr γ base cs vs []):∀n,Reps w Pr γ base (List.replicate n cs).flatten (List.replicate n vs).flatten []
 | 0=> .nil
 |n + 1=>by
  rw [MO,MO,UM,UM];exact h.append (ZrC h n)
theorem ZBu (hT:TOk P T) {t e k:Nat} {l c:Operand} (ho:o.op= .makeSlice t l c) (ht:T t= .sl e k)
  (h:rd0 l s (fun l=>rd0 c s fun c=>match l,c with
   | .lit (.int _ n), .lit (.int _ m)=>if 0<=n/\n=m/\n * byA (T e)<=140737488355328/\n<=1152921504606846976 then
     newObj o.dst ⟨false,k,List.replicate n.toNat (T e).zero⟩ s fun d s'=>K (.la d) s' else none
   | _,_=>none)=some r):∃sv s1,K sv s1=some r/\ZU P GE nt o s sv s1:=by
 obtain ⟨lv,h,hl⟩:=YX (GE:=GE) h;obtain ⟨cv,h,hc⟩:=YX (GE:=GE) h;split at h
 case h_2=>cases h
 rename_i kl n kc m _;split at h
 case isFalse=>cases h
 rename_i hn;obtain ⟨n0,rfl,n2,n1⟩:=hn;obtain ⟨j,z,hj,hs,hk0,hby,hz,hzo,hek⟩:=JD hT ht;have hu:=VF hT ht;unfold newObj at h;split at h
 ·cases h
 ·rename_i d hd;split at h
  ·rename_i hL;refine ⟨_,_,h,fun D Pr0 w0 a w ⟨ow,Pr,B,γ,hi,hdf,hnt⟩ hok next Q hnext=> ?_⟩;obtain ⟨_,hl⟩:=hl.ok hi;obtain ⟨_,hc⟩:=hc.ok hi;have e1:=XB hl;have e2:=XB hc;obtain ⟨z1,z2⟩:=Zbz (w:=w) (Pr:=Pr) (γ:=γ) (base:=w0.heap.size) hzo;have hzl:(T e).zero.length=k:=by rw [←z1.length_eq];rw [hek] at z2;simpa using z2
   have en:(n.toNat:Int)=n:=M4 n0;have hb:(j.bytes:Int) * n<=281474976710656:=by
    have h1:(j.bytes:Int)<=byA (T e):=by have:=ZmC hT ht hj;omega
    have h2:(j.bytes:Int) * n<=byA (T e) * n:=Int.mul_le_mul_of_nonneg_right h1 n0;rw [Int.mul_comm (byA (T e):Int) n] at h2;omega
   have hrun:=run_make (P:=P) w t e j z hu hj hz kl kc n n n0 (Fj _) hb (by omega);have hcs:(madeCells z.cells (n.toNat * j.size)).toList=(List.replicate n.toNat z.cells.toList).flatten:=by
    rw [hs,←hek,←z2,ZBt _ (by rw [z2,hek];exact hk0)]
   have h5:=hi.newObj (ob:=⟨false,k,List.replicate n.toNat (T e).zero⟩) (e:=e) (vs:=madeCells z.cells (n.toNat * j.size)) (F:= []) hL rfl (by
     rw [hcs];exact ZrC z1 _) UE (by simp) (by
     intro r hr;rw [List.eq_of_mem_replicate hr];exact hzl) (by simp [maxLen];omega)
   have hzs:(madeCells z.cells (n.toNat * j.size)).size=n.toNat * k:=by
    rw [←Ue,hcs,List.length_flatten,List.map_replicate,List.sum_replicate_nat,Ue,z2,hek]
   have hla:LaOk (w.alloc (.cells (madeCells z.cells (n.toNat * j.size)) e)) w.heap.size k n.toNat (some ⟨w.heap.size,0,none⟩) n.toNat:=by
    rcases MW n.toNat with h0 |h0
    ·exact .inl ⟨h0,h0⟩
    ·exact .inr ⟨rfl,h0,Uq _,by simp only [maxLen];omega,_,e,heap_alloc_new w _,hzs⟩
   refine Ya ?_ (hnext _ _ (Z2 h5 hdf hnt hok ⟨_,some ⟨w.heap.size,0,none⟩,n.toNat,ZE _ _ _,by rw [List.length_replicate],by
    rw [ZE];simpa only [List.length_replicate] using hla⟩))
   simp [execOp,ho,e1,e2,hrun,ZE]
  ·cases h
end
end Go.Fx
