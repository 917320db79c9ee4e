/- Abstract values and a pure evaluator over the model's Code: values are trees, slices are lists, each slice bears a flag that says whether this activation owns its memory. -/
import Derived.Orders
import Derived.Laws.AppendOwn
set_option linter.all false
namespace Go.Fx
abbrev Ua:=@List.getElem?_eq_getElem
abbrev Ub:=@Bool.and_eq_true
abbrev Uc:=@List.length_take
abbrev Ud:=@Nat.eq_of_beq_eq_true
abbrev Ue:=@Array.length_toList
abbrev Uf:=@if_neg
abbrev Ug:=@List.mem_cons_of_mem
abbrev Uh:=@List.length_append
abbrev Ui:=@Bool.not_true
abbrev Uj:=@List.mem_cons_self
abbrev Uk:=@List.mem_of_getElem?
abbrev Ul:=@if_pos
abbrev Um:=@decide_eq_false
abbrev Un:=@Option.some.inj
abbrev Uo:=@Int.natCast_succ
abbrev Up:=@List.take_append_drop
abbrev Uq:=@Nat.le_refl
abbrev Ur:=@cond_false
abbrev Us:=@List.eq_nil_of_length_eq_zero
abbrev Ut:=@cond_true
abbrev Uu:=@List.length_drop
abbrev Uv:=@decide_eq_true
abbrev Uw:=@List.append_assoc
abbrev Ux:=@Int.toNat_natCast
abbrev Uy:=@List.length_map
abbrev Uz:=@List.mem_append_left
abbrev UA:=@List.getElem?_take
abbrev UB:=@Nat.lt_of_lt_of_le
abbrev UC:=@congrArg
abbrev UD:=@List.mem_append_right
abbrev UE:=@List.nodup_nil
abbrev UF:=@List.drop_eq_getElem_cons
abbrev UG:=@Option.bind_some
abbrev UH:=@Bool.not_eq_true'
abbrev UI:=@decide_eq_true_eq
abbrev UJ:=@List.length_cons
abbrev UK:=@List.append_nil
abbrev UL:=@Nat.mul_le_mul_right
abbrev UM:=@List.flatten_cons
abbrev UN:=@List.mem_zipIdx_iff_getElem?
abbrev UO:=@ByteArray.size_append
abbrev UP:=@List.getElem?_eq_none
abbrev UQ:=@List.length_nil
abbrev UR:=@List.size_toArray
abbrev US:=@List.getElem?_drop
abbrev UT:=@Bool.not_false
abbrev UU:=@List.length_set
abbrev UV:=@List.ext_getElem?
abbrev UW:=@Bool.true_and
abbrev UX:=@Nat.add_mul
abbrev UY:=@List.map_append
abbrev UZ:=@List.getElem?_append_left
abbrev U0:=@Nat.zero_add
abbrev U1:=@if_true
abbrev U2:=@Nat.lt_or_ge
abbrev U3:=@decide_false
abbrev U4:=@List.take_of_length_le
abbrev U5:=@List.cons_append
abbrev U6:=@List.getElem?_set
abbrev U7:=@decide_eq_false_iff_not
abbrev U8:=@Nat.min_eq_left
abbrev U9:=@List.nil_append
abbrev Ma:=@Bool.or_eq_true
abbrev Mb:=@List.map_cons
abbrev Mc:=@List.mem_or_eq_of_mem_set
abbrev Md:=@List.foldl_cons
abbrev Me:=@List.drop_eq_nil_of_le
abbrev Mf:=@List.getElem?_map
abbrev Mg:=@List.getElem?_modify
abbrev Mh:=@List.getElem?_of_mem
abbrev Mi:=@List.getElem?_append_right
abbrev Mj:=@Nat.pow_le_pow_right
abbrev Mk:=@Nat.le_trans
abbrev Ml:=@List.mem_singleton
abbrev Mm:=@Nat.zero_le
abbrev Mn:=@beq_eq_false_iff_ne
abbrev Mo:=@Array.getElem?_toList
abbrev Mp:=@List.length_singleton
abbrev Mq:=@List.getElem?_cons_succ
abbrev Mr:=@decide_true
abbrev Ms:=@Iff.rfl
abbrev Mt:=@Option.isNone_iff_eq_none
abbrev Mu:=@Array.ext'
abbrev Mv:=@List.flatten_append
abbrev Mw:=@if_false
abbrev Mx:=@List.mem_of_mem_drop
abbrev My:=@Array.getD_eq_getD_getElem?
abbrev Mz:=@Bool.and_self
abbrev MA:=@List.all_cons
abbrev MB:=@Nat.add_assoc
abbrev MC:=@Nat.beq_refl
abbrev MD:=@List.drop_drop
abbrev ME:=@Option.map_eq_some_iff
abbrev MF:=@List.take_add_one
abbrev MG:=@Array.getElem?_eq_getElem
abbrev MH:=@List.pairwise_iff_getElem
abbrev MI:=@Nat.le_of_ble_eq_true
abbrev MJ:=@List.mem_of_mem_take
abbrev MK:=@Nat.one_mul
abbrev ML:=@List.drop_zero
abbrev MM:=@List.Sublist.refl
abbrev MN:=@Option.some.injEq
abbrev MO:=@List.replicate_succ
abbrev MP:=@List.map_map
abbrev MQ:=@List.set_set
abbrev MR:=@Nat.lt_irrefl
abbrev MS:=@List.all_eq_true
abbrev MT:=@List.take_length
abbrev MU:=@List.mapM_cons
abbrev MV:=@Bool.false_eq_true
abbrev MW:=@Nat.eq_zero_or_pos
abbrev MX:=@List.mem_filterMap
abbrev MY:=@List.getD_eq_getElem?_getD
abbrev MZ:=@Nat.add_zero
abbrev M0:=@Array.size_append
abbrev M1:=@bne_self_eq_false
abbrev M2:=@List.exists_of_findSome?_eq_some
abbrev M3:=@ByteArray.ext
abbrev M4:=@Int.toNat_of_nonneg
abbrev M5:=@Array.toList_append
abbrev M6:=@List.drop_length
abbrev M7:=@List.filter_cons_of_pos
abbrev M8:=@beq_self_eq_true
abbrev M9:=@getElem!_pos
abbrev Fe:=@List.length_zip
abbrev Ff:=@Bool.and_eq_false_iff
abbrev Fg:=@List.length_filter_le
abbrev Fi:=@List.length_range
abbrev Fj:=@Int.le_refl
abbrev Fk:=@Array.getElem?_append_left
abbrev Fl:=@Nat.min_def
abbrev Fm:=@List.flatten_nil
abbrev Fo:=@List.map_set
abbrev Fp:=@Nat.mul_le_mul_left
abbrev Fr:=@List.takeWhile_cons
abbrev Fu:=@Option.map_some
abbrev Fv:=@List.take_left'
abbrev Fw:=@Int.natCast_nonneg
abbrev Fz:=@beq_iff_eq
abbrev FB:=@List.getElem?_cons_zero
abbrev FC:=@List.map_id
abbrev FD:=@List.filter_cons_of_neg
abbrev FE:=@Nat.lt_trichotomy
abbrev FF:=@of_decide_eq_true
abbrev FG:=@Nat.testBit_lt_two_pow
abbrev FH:=@List.nil_sublist
abbrev FI:=@Nat.zero_testBit
abbrev FJ:=@Bool.false_or
abbrev FK:=@List.any_cons
abbrev FL:=@Nat.eq_of_testBit_eq
abbrev FN:=@List.cons.injEq
abbrev FO:=@List.take_take
abbrev FP:=@List.take_left
abbrev FQ:=@true_and
inductive Own where |shr |own |unq
 deriving DecidableEq
inductive AV where
 |lit (v:Value)
 |slc (o:Own) (k:Nat) (xs:List (List AV))
 |agg (cs:List AV)
 |tup (vs:List AV)
 |fn (f:Nat) (caps:List AV)
 |rp (cs:List AV)
 |gp (id off:Nat)
 |opq
 |nilq (xs:List (List AV))
abbrev Xh:AV:= .tup []
instance:Inhabited AV:=⟨Xh⟩
abbrev I (n:Int):AV:= .lit (.int .i64 n)
abbrev Bl (b:Bool):AV:= .lit (.bool b)
abbrev Sg (s:ByteArray):AV:= .lit (.string s)
mutual
def AV.clr:AV->AV
 | .lit v=> .lit v
 | .slc o k xs=>match o with
  | .unq=> .opq
  | _=> .slc .shr k xs
 | .agg cs=> .agg (clrs cs)
 | .tup vs=> .tup (clrs vs)
 | .fn f caps=> .fn f (clrs caps)
 | .rp cs=> .rp (clrs cs)
 | .gp i o=> .gp i o
 | .opq=> .opq
 | .nilq xs=> .nilq xs
def clrs:List AV->List AV
 | []=> []
 |a::as=>a.clr::clrs as
end
mutual
def AV.bor:AV->AV
 | .lit v=> .lit v
 | .slc o k xs=>match o with
  | .unq=> .slc .shr k (Yh xs)
  | _=> .slc .shr k xs
 | .agg cs=> .agg (Ql cs)
 | .tup vs=> .tup (Ql vs)
 | .fn f caps=> .fn f (clrs caps)
 | .rp cs=> .rp (clrs cs)
 | .gp i o=> .gp i o
 | .opq=> .opq
 | .nilq xs=> .nilq xs
def Ql:List AV->List AV
 | []=> []
 |a::as=>a.bor::Ql as
def Yh:List (List AV)->List (List AV)
 | []=> []
 |a::as=>Ql a::Yh as
end
mutual
def AV.toU:AV->AV
 | .slc o k xs=>match o with
  | .own=> .slc .unq k (YK xs)
  |o=> .slc o k xs
 | .agg cs=> .agg (Q4 cs)
 | .tup vs=> .tup (Q4 vs)
 |a=>a
def Q4:List AV->List AV
 | []=> []
 |a::as=>a.toU::Q4 as
def YK:List (List AV)->List (List AV)
 | []=> []
 |a::as=>Q4 a::YK as
end
mutual
def AV.okU:AV->Bool
 | .lit _=>true
 | .slc o _ xs=>match o with
  | .own=>Q5 xs
  | _=>false
 | .agg cs=>Y7 cs
 | .tup vs=>Y7 vs
 | _=>false
def Y7:List AV->Bool
 | []=>true
 |a::as=>a.okU && Y7 as
def Q5:List (List AV)->Bool
 | []=>true
 |a::as=>Y7 a && Q5 as
end
mutual
def AV.frz:AV->AV
 | .slc o k xs=>match o with
  | .unq=> .slc .own k (ZY xs)
  |o=> .slc o k xs
 | .agg cs=> .agg (Q6 cs)
 | .tup vs=> .tup (Q6 vs)
 |a=>a
def Q6:List AV->List AV
 | []=> []
 |a::as=>a.frz::Q6 as
def ZY:List (List AV)->List (List AV)
 | []=> []
 |a::as=>Q6 a::ZY as
end
inductive Ag where
 |hd
 |st (m:Nat)
 |el (e k n o:Nat)
inductive SV where
 |val (a:AV)
 |lp (key i off:Nat)
 |la (key:Nat)
 |lv (key i off:Nat) (ag:Ag)
 |no
def Yi:Value->Bool
 | .bool _=>true
 | .int _ _=>true
 | .string _=>true
 | .nilFunc=>true
 | _=>false
def AV.one:AV->Bool
 | .agg _=>false
 | .tup _=>false
 | .gp _ _=>false
 | _=>true
def AV.ng:AV->Bool
 | .tup _=>false
 | .gp _ _=>false
 | _=>true
def cellsN (n:Nat):AV->Option (List AV)
 | .agg cs=>bif Nat.beq cs.length n then some cs else none
 | .tup _=>none
 | .gp _ _=>none
 |a=>bif Nat.beq n 1 then some [a] else none
def cnd {β:Type} (b:Bool) (x y:Option β):Option β:=bif b then x else y
end Go.Fx
