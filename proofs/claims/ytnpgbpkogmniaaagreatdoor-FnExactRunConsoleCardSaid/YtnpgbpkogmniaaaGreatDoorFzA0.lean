/- Abstract values and a pure evaluator over the model's Code: values are trees, slices are lists, each slice bears a flag that says whether this activation owns its memory. -/
import Derived.Orders
import Derived.Laws.AppendOwn
set_option linter.all false
namespace Go.Fx
abbrev Ua:=@List.getElem?_eq_getElem
abbrev Ub:=@Bool.and_eq_true
abbrev Uc:=@List.length_take
abbrev Ud:=@Nat.eq_of_beq_eq_true
abbrev Ue:=@Array.length_toList
abbrev Uf:=@if_neg
abbrev Ug:=@decide_eq_false
abbrev Uh:=@if_pos
abbrev Ui:=@List.mem_cons_of_mem
abbrev Uj:=@List.length_append
abbrev Uk:=@Bool.not_true
abbrev Ul:=@decide_eq_true
abbrev Um:=@List.mem_of_getElem?
abbrev Un:=@List.mem_cons_self
abbrev Uo:=@Option.some.inj
abbrev Up:=@Int.natCast_succ
abbrev Uq:=@List.take_append_drop
abbrev Ur:=@Nat.le_refl
abbrev Us:=@List.length_drop
abbrev Ut:=@List.length_map
abbrev Uu:=@cond_false
abbrev Uv:=@List.eq_nil_of_length_eq_zero
abbrev Uw:=@cond_true
abbrev Ux:=@List.append_assoc
abbrev Uy:=@Int.toNat_natCast
abbrev Uz:=@List.mem_append_left
abbrev UA:=@List.getElem?_take
abbrev UB:=@Nat.lt_of_lt_of_le
abbrev UC:=@congrArg
abbrev UD:=@List.mem_append_right
abbrev UE:=@List.nodup_nil
abbrev UF:=@Option.bind_some
abbrev UG:=@decide_eq_true_eq
abbrev UH:=@List.drop_eq_getElem_cons
abbrev UI:=@Bool.not_eq_true'
abbrev UJ:=@List.append_nil
abbrev UK:=@List.length_cons
abbrev UL:=@Nat.mul_le_mul_right
abbrev UM:=@List.flatten_cons
abbrev UN:=@ByteArray.size_append
abbrev UO:=@List.mem_zipIdx_iff_getElem?
abbrev UP:=@List.getElem?_eq_none
abbrev UQ:=@List.length_nil
abbrev UR:=@List.size_toArray
abbrev US:=@List.getElem?_drop
abbrev UT:=@Bool.not_false
abbrev UU:=@List.getElem?_append_left
abbrev UV:=@Bool.true_and
abbrev UW:=@List.map_append
abbrev UX:=@List.ext_getElem?
abbrev UY:=@Nat.add_mul
abbrev UZ:=@Nat.zero_add
abbrev U0:=@List.take_of_length_le
abbrev U1:=@List.drop_eq_nil_of_le
abbrev U2:=@if_true
abbrev U3:=@decide_false
abbrev U4:=@List.length_set
abbrev U5:=@List.nil_append
abbrev U6:=@List.cons_append
abbrev U7:=@Nat.lt_or_ge
abbrev U8:=@List.getElem?_set
abbrev U9:=@decide_eq_false_iff_not
abbrev Ma:=@Nat.min_eq_left
abbrev Mb:=@Nat.zero_le
abbrev Mc:=@beq_eq_false_iff_ne
abbrev Md:=@List.map_cons
abbrev Me:=@Bool.or_eq_true
abbrev Mf:=@List.getElem?_map
abbrev Mg:=@List.getElem?_append_right
abbrev Mh:=@List.mem_or_eq_of_mem_set
abbrev Mi:=@List.foldl_cons
abbrev Mj:=@List.getElem?_modify
abbrev Mk:=@List.getElem?_of_mem
abbrev Ml:=@Nat.pow_le_pow_right
abbrev Mm:=@Nat.le_trans
abbrev Mn:=@List.mem_singleton
abbrev Mo:=@decide_true
abbrev Mp:=@List.length_singleton
abbrev Mq:=@List.getElem?_cons_succ
abbrev Mr:=@Iff.rfl
abbrev Ms:=@Option.isNone_iff_eq_none
abbrev Mt:=@Array.ext'
abbrev Mu:=@List.flatten_append
abbrev Mv:=@Array.getElem?_toList
abbrev Mw:=@Bool.and_self
abbrev Mx:=@if_false
abbrev My:=@List.mem_of_mem_drop
abbrev Mz:=@Array.getD_eq_getD_getElem?
abbrev MA:=@List.all_cons
abbrev MB:=@Nat.add_assoc
abbrev MC:=@Nat.beq_refl
abbrev MD:=@List.drop_drop
abbrev ME:=@Option.map_eq_some_iff
abbrev MF:=@List.take_add_one
abbrev MG:=@Array.getElem?_eq_getElem
abbrev MH:=@List.pairwise_iff_getElem
abbrev MI:=@Nat.le_of_ble_eq_true
abbrev MJ:=@List.mem_of_mem_take
abbrev MK:=@Nat.one_mul
abbrev ML:=@List.drop_zero
abbrev MM:=@List.Sublist.refl
abbrev MN:=@Option.some.injEq
abbrev MO:=@bne_self_eq_false
abbrev MP:=@List.replicate_succ
abbrev MQ:=@List.map_map
abbrev MR:=@Nat.lt_irrefl
abbrev MS:=@ByteArray.ext
abbrev MT:=@List.all_eq_true
abbrev MU:=@List.take_length
abbrev MV:=@List.mapM_cons
abbrev MW:=@Bool.false_eq_true
abbrev MX:=@Nat.eq_zero_or_pos
abbrev MY:=@List.mem_filterMap
abbrev MZ:=@List.getD_eq_getElem?_getD
abbrev M0:=@Nat.add_zero
abbrev M1:=@Array.size_append
abbrev M2:=@List.exists_of_findSome?_eq_some
abbrev M3:=@Int.toNat_of_nonneg
abbrev M4:=@Array.toList_append
abbrev M5:=@List.drop_length
abbrev M6:=@List.filter_cons_of_pos
abbrev M7:=@beq_self_eq_true
abbrev M8:=@List.getLast?_eq_some_getLast
abbrev M9:=@getElem!_pos
abbrev Fe:=@List.length_zip
abbrev Ff:=@List.any_cons
abbrev Fg:=@Bool.and_eq_false_iff
abbrev Fi:=@List.length_filter_le
abbrev Fj:=@List.length_range
abbrev Fk:=@Int.le_refl
abbrev Fl:=@Array.getElem?_append_left
abbrev Fm:=@Nat.min_def
abbrev Fo:=@List.flatten_nil
abbrev Fp:=@Nat.mul_le_mul_left
abbrev Fr:=@List.takeWhile_cons
abbrev Fu:=@Option.map_some
abbrev Fv:=@List.take_left'
abbrev Fw:=@Int.natCast_nonneg
abbrev Fz:=@beq_iff_eq
abbrev FB:=@List.getElem?_cons_zero
abbrev FC:=@List.filter_cons_of_neg
abbrev FD:=@Nat.lt_trichotomy
abbrev FE:=@of_decide_eq_true
abbrev FF:=@Nat.testBit_lt_two_pow
abbrev FG:=@ByteArray.data_extract
abbrev FH:=@List.nil_sublist
abbrev FI:=@Nat.zero_testBit
abbrev FJ:=@Bool.false_or
abbrev FK:=@Nat.eq_of_testBit_eq
abbrev FL:=@Array.toList_extract
abbrev FN:=@List.cons.injEq
abbrev FO:=@List.any_append
abbrev FP:=@List.set_set
abbrev FQ:=@List.take_take
abbrev FR:=@List.take_left
abbrev FS:=@List.map_id
abbrev FT:=@true_and
inductive Own where |shr |own |unq
 deriving DecidableEq
inductive AV where
 |lit (v:Value)
 |slc (o:Own) (k:Nat) (xs:List (List AV))
 |agg (cs:List AV)
 |tup (vs:List AV)
 |fn (f:Nat) (caps:List AV)
 |rp (cs:List AV)
 |gp (id off:Nat)
 |opq
 |nilq (xs:List (List AV))
abbrev Xd:AV:= .tup []
instance:Inhabited AV:=⟨Xd⟩
abbrev I (n:Int):AV:= .lit (.int .i64 n)
abbrev Bl (b:Bool):AV:= .lit (.bool b)
abbrev Sg (s:ByteArray):AV:= .lit (.string s)
mutual
def AV.clr:AV->AV
 | .lit v=> .lit v
 | .slc o k xs=>match o with
  | .unq=> .opq
  | _=> .slc .shr k xs
 | .agg cs=> .agg (clrs cs)
 | .tup vs=> .tup (clrs vs)
 | .fn f caps=> .fn f (clrs caps)
 | .rp cs=> .rp (clrs cs)
 | .gp i o=> .gp i o
 | .opq=> .opq
 | .nilq xs=> .nilq xs
def clrs:List AV->List AV
 | []=> []
 |a::as=>a.clr::clrs as
end
mutual
def AV.bor:AV->AV
 | .lit v=> .lit v
 | .slc o k xs=>match o with
  | .unq=> .slc .shr k (Yn xs)
  | _=> .slc .shr k xs
 | .agg cs=> .agg (Q5 cs)
 | .tup vs=> .tup (Q5 vs)
 | .fn f caps=> .fn f (clrs caps)
 | .rp cs=> .rp (clrs cs)
 | .gp i o=> .gp i o
 | .opq=> .opq
 | .nilq xs=> .nilq xs
def Q5:List AV->List AV
 | []=> []
 |a::as=>a.bor::Q5 as
def Yn:List (List AV)->List (List AV)
 | []=> []
 |a::as=>Q5 a::Yn as
end
mutual
def AV.toU:AV->AV
 | .slc o k xs=>match o with
  | .own=> .slc .unq k (Yk xs)
  |o=> .slc o k xs
 | .agg cs=> .agg (Q6 cs)
 | .tup vs=> .tup (Q6 vs)
 |a=>a
def Q6:List AV->List AV
 | []=> []
 |a::as=>a.toU::Q6 as
def Yk:List (List AV)->List (List AV)
 | []=> []
 |a::as=>Q6 a::Yk as
end
mutual
def AV.okU:AV->Bool
 | .lit _=>true
 | .slc o _ xs=>match o with
  | .own=>QL xs
  | _=>false
 | .agg cs=>Y6 cs
 | .tup vs=>Y6 vs
 | _=>false
def Y6:List AV->Bool
 | []=>true
 |a::as=>a.okU && Y6 as
def QL:List (List AV)->Bool
 | []=>true
 |a::as=>Y6 a && QL as
end
mutual
def AV.frz:AV->AV
 | .slc o k xs=>match o with
  | .unq=> .slc .own k (ZW xs)
  |o=> .slc o k xs
 | .agg cs=> .agg (Q7 cs)
 | .tup vs=> .tup (Q7 vs)
 |a=>a
def Q7:List AV->List AV
 | []=> []
 |a::as=>a.frz::Q7 as
def ZW:List (List AV)->List (List AV)
 | []=> []
 |a::as=>Q7 a::ZW as
end
inductive Ag where
 |hd
 |st (m:Nat)
 |el (e k n o:Nat)
inductive SV where
 |val (a:AV)
 |lp (key i off:Nat)
 |la (key:Nat)
 |lv (key i off:Nat) (ag:Ag)
 |no
def Yi:Value->Bool
 | .bool _=>true
 | .int _ _=>true
 | .string _=>true
 | .nilFunc=>true
 | _=>false
def AV.one:AV->Bool
 | .agg _=>false
 | .tup _=>false
 | .gp _ _=>false
 | _=>true
def AV.ng:AV->Bool
 | .tup _=>false
 | .gp _ _=>false
 | _=>true
def cellsN (n:Nat):AV->Option (List AV)
 | .agg cs=>bif Nat.beq cs.length n then some cs else none
 | .tup _=>none
 | .gp _ _=>none
 |a=>bif Nat.beq n 1 then some [a] else none
end Go.Fx
