/- Abstract values and a pure evaluator over the model's Code: values are trees, slices are lists, each slice bears a flag that says whether this activation owns its memory. -/
import Derived.Orders
import Derived.Laws.AppendOwn
set_option linter.all false
namespace Go.Fx
abbrev Ua:=@Bool.and_eq_true
abbrev Ub:=@List.getElem?_eq_getElem
abbrev Uc:=@List.length_take
abbrev Ud:=@Nat.eq_of_beq_eq_true
abbrev Ue:=@Array.length_toList
abbrev Uf:=@List.mem_cons_of_mem
abbrev Ug:=@List.mem_cons_self
abbrev Uh:=@List.length_append
abbrev Ui:=@if_neg
abbrev Uj:=@if_pos
abbrev Uk:=@Bool.not_true
abbrev Ul:=@List.take_append_drop
abbrev Um:=@decide_eq_false
abbrev Un:=@cond_false
abbrev Uo:=@cond_true
abbrev Up:=@List.length_drop
abbrev Uq:=@Nat.le_refl
abbrev Ur:=@List.eq_nil_of_length_eq_zero
abbrev Us:=@List.append_assoc
abbrev Ut:=@decide_eq_true
abbrev Uu:=@List.mem_of_getElem?
abbrev Uv:=@List.length_map
abbrev Uw:=@List.mem_append_left
abbrev Ux:=@congrArg
abbrev Uy:=@Nat.lt_of_lt_of_le
abbrev Uz:=@List.getElem?_take
abbrev UA:=@Int.natCast_succ
abbrev UB:=@Option.some.inj
abbrev UC:=@Int.toNat_natCast
abbrev UD:=@List.mem_append_right
abbrev UE:=@List.nodup_nil
abbrev UF:=@Option.bind_some
abbrev UG:=@Bool.not_eq_true'
abbrev UH:=@decide_eq_true_eq
abbrev UI:=@List.length_cons
abbrev UJ:=@ByteArray.size_append
abbrev UK:=@Nat.mul_le_mul_right
abbrev UL:=@List.flatten_cons
abbrev UM:=@List.mem_zipIdx_iff_getElem?
abbrev UN:=@List.drop_eq_getElem_cons
abbrev UO:=@List.append_nil
abbrev UP:=@List.getElem?_eq_none
abbrev UQ:=@List.size_toArray
abbrev UR:=@List.getElem?_drop
abbrev US:=@List.length_nil
abbrev UT:=@Bool.not_false
abbrev UU:=@Nat.add_mul
abbrev UV:=@List.ext_getElem?
abbrev UW:=@Bool.true_and
abbrev UX:=@List.map_append
abbrev UY:=@List.map_cons
abbrev UZ:=@Nat.zero_add
abbrev U0:=@List.cons_append
abbrev U1:=@Nat.lt_or_ge
abbrev U2:=@List.take_of_length_le
abbrev U3:=@if_true
abbrev U4:=@List.getElem?_set
abbrev U5:=@decide_eq_false_iff_not
abbrev U6:=@Nat.min_eq_left
abbrev U7:=@Nat.zero_le
abbrev U8:=@List.getElem?_append_left
abbrev U9:=@Bool.or_eq_true
abbrev Ma:=@List.mem_singleton
abbrev Mb:=@List.mem_or_eq_of_mem_set
abbrev Mc:=@List.length_set
abbrev Md:=@List.nil_append
abbrev Me:=@List.foldl_cons
abbrev Mf:=@List.drop_eq_nil_of_le
abbrev Mg:=@List.getElem?_modify
abbrev Mh:=@decide_false
abbrev Mi:=@List.getElem?_of_mem
abbrev Mj:=@List.getElem?_append_right
abbrev Mk:=@List.getElem?_map
abbrev Ml:=@List.length_singleton
abbrev Mm:=@List.map_set
abbrev Mn:=@List.getElem?_cons_succ
abbrev Mo:=@Nat.le_trans
abbrev Mp:=@Iff.rfl
abbrev Mq:=@List.map_map
abbrev Mr:=@Option.isNone_iff_eq_none
abbrev Ms:=@List.flatten_append
abbrev Mt:=@decide_true
abbrev Mu:=@bne_self_eq_false
abbrev Mv:=@Array.getElem?_toList
abbrev Mw:=@Nat.beq_refl
abbrev Mx:=@Array.ext'
abbrev My:=@if_false
abbrev Mz:=@List.mem_of_mem_drop
abbrev MA:=@List.map_id
abbrev MB:=@Nat.pow_le_pow_right
abbrev MC:=@Array.getD_eq_getD_getElem?
abbrev MD:=@List.all_cons
abbrev ME:=@Nat.add_assoc
abbrev MF:=@List.drop_drop
abbrev MG:=@beq_eq_false_iff_ne
abbrev MH:=@Array.getElem?_eq_getElem
abbrev MI:=@List.pairwise_iff_getElem
abbrev MJ:=@Nat.le_of_ble_eq_true
abbrev MK:=@Bool.false_eq_true
abbrev ML:=@Nat.eq_zero_or_pos
abbrev MM:=@Nat.lt_irrefl
abbrev MN:=@List.mem_of_mem_take
abbrev MO:=@Nat.one_mul
abbrev MP:=@List.Sublist.refl
abbrev MQ:=@Option.some.injEq
abbrev MR:=@List.take_add_one
abbrev MS:=@List.replicate_succ
abbrev MT:=@Array.toList_append
abbrev MU:=@Option.map_eq_some_iff
abbrev MV:=@Bool.and_self
abbrev MW:=@List.all_eq_true
abbrev MX:=@List.mapM_cons
abbrev MY:=@List.map_replicate
abbrev MZ:=@List.mem_filterMap
abbrev M0:=@List.getD_eq_getElem?_getD
abbrev M1:=@List.drop_zero
abbrev M2:=@Nat.add_zero
abbrev M3:=@Array.size_append
abbrev M4:=@List.exists_of_findSome?_eq_some
abbrev M5:=@Int.toNat_of_nonneg
abbrev M6:=@List.filter_cons_of_pos
abbrev M7:=@beq_self_eq_true
abbrev M8:=@Int.le_refl
abbrev M9:=@List.getLast?_eq_some_getLast
abbrev Fe:=@getElem!_pos
abbrev Ff:=@List.length_filter_le
abbrev Fg:=@of_decide_eq_true
abbrev Fi:=@Array.getElem?_append_left
abbrev Fj:=@Nat.min_def
abbrev Fk:=@List.take_length
abbrev Fl:=@Nat.mul_le_mul_left
abbrev Fm:=@List.takeWhile_cons
abbrev Fo:=@List.any_cons
abbrev Fp:=@ByteArray.ext
abbrev Fr:=@Option.map_some
abbrev Fu:=@List.take_left'
abbrev Fv:=@List.getElem?_cons_zero
abbrev Fw:=@List.filter_cons_of_neg
abbrev Fz:=@List.length_range
abbrev FB:=@Nat.lt_trichotomy
abbrev FC:=@Nat.testBit_lt_two_pow
abbrev FD:=@List.nil_sublist
abbrev FE:=@List.flatten_nil
abbrev FF:=@beq_iff_eq
abbrev FG:=@Nat.zero_testBit
abbrev FH:=@List.mem_cons
abbrev FI:=@Bool.false_or
abbrev FJ:=@Nat.eq_of_testBit_eq
abbrev FK:=@List.length_zip
abbrev FL:=@List.any_append
abbrev FN:=@List.set_set
abbrev FO:=@List.take_take
abbrev FP:=@List.take_left
inductive Own where |shr |own |unq
 deriving DecidableEq
inductive AV where
 |lit (v:Value)
 |slc (o:Own) (k:Nat) (xs:List (List AV))
 |agg (cs:List AV)
 |tup (vs:List AV)
 |fn (f:Nat) (caps:List AV)
 |rp (cs:List AV)
 |gp (id off:Nat)
 |opq
 |nilq (xs:List (List AV))
abbrev Y5:AV:= .tup []
instance:Inhabited AV:=⟨Y5⟩
abbrev I (n:Int):AV:= .lit (.int .i64 n)
abbrev Bl (b:Bool):AV:= .lit (.bool b)
abbrev Sg (s:ByteArray):AV:= .lit (.string s)
mutual
def AV.clr:AV->AV
 | .lit v=> .lit v
 | .slc o k xs=>match o with
  | .unq=> .opq
  | _=> .slc .shr k xs
 | .agg cs=> .agg (clrs cs)
 | .tup vs=> .tup (clrs vs)
 | .fn f caps=> .fn f (clrs caps)
 | .rp cs=> .rp (clrs cs)
 | .gp i o=> .gp i o
 | .opq=> .opq
 | .nilq xs=> .nilq xs
def clrs:List AV->List AV
 | []=> []
 |a::as=>a.clr::clrs as
end
mutual
def AV.bor:AV->AV
 | .lit v=> .lit v
 | .slc o k xs=>match o with
  | .unq=> .slc .shr k (Yo xs)
  | _=> .slc .shr k xs
 | .agg cs=> .agg (Xb cs)
 | .tup vs=> .tup (Xb vs)
 | .fn f caps=> .fn f (clrs caps)
 | .rp cs=> .rp (clrs cs)
 | .gp i o=> .gp i o
 | .opq=> .opq
 | .nilq xs=> .nilq xs
def Xb:List AV->List AV
 | []=> []
 |a::as=>a.bor::Xb as
def Yo:List (List AV)->List (List AV)
 | []=> []
 |a::as=>Xb a::Yo as
end
mutual
def AV.toU:AV->AV
 | .slc o k xs=>match o with
  | .own=> .slc .unq k (Ym xs)
  |o=> .slc o k xs
 | .agg cs=> .agg (Xc cs)
 | .tup vs=> .tup (Xc vs)
 |a=>a
def Xc:List AV->List AV
 | []=> []
 |a::as=>a.toU::Xc as
def Ym:List (List AV)->List (List AV)
 | []=> []
 |a::as=>Xc a::Ym as
end
mutual
def AV.okU:AV->Bool
 | .lit _=>true
 | .slc o _ xs=>match o with
  | .own=>Y6 xs
  | _=>false
 | .agg cs=>YG cs
 | .tup vs=>YG vs
 | _=>false
def YG:List AV->Bool
 | []=>true
 |a::as=>a.okU && YG as
def Y6:List (List AV)->Bool
 | []=>true
 |a::as=>YG a && Y6 as
end
mutual
def AV.frz:AV->AV
 | .slc o k xs=>match o with
  | .unq=> .slc .own k (Z9 xs)
  |o=> .slc o k xs
 | .agg cs=> .agg (QR cs)
 | .tup vs=> .tup (QR vs)
 |a=>a
def QR:List AV->List AV
 | []=> []
 |a::as=>a.frz::QR as
def Z9:List (List AV)->List (List AV)
 | []=> []
 |a::as=>QR a::Z9 as
end
inductive Ag where
 |hd
 |st (m:Nat)
 |el (e k n o:Nat)
inductive SV where
 |val (a:AV)
 |lp (key i off:Nat)
 |la (key:Nat)
 |lv (key i off:Nat) (ag:Ag)
 |no
def Yh:Value->Bool
 | .bool _=>true
 | .int _ _=>true
 | .string _=>true
 | .nilFunc=>true
 | _=>false
def AV.one:AV->Bool
 | .agg _=>false
 | .tup _=>false
 | .gp _ _=>false
 | _=>true
def AV.ng:AV->Bool
 | .tup _=>false
 | .gp _ _=>false
 | _=>true
def cellsN (n:Nat):AV->Option (List AV)
 | .agg cs=>bif Nat.beq cs.length n then some cs else none
 | .tup _=>none
 | .gp _ _=>none
 |a=>bif Nat.beq n 1 then some [a] else none
end Go.Fx
