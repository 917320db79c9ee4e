/- For all arguments, the program's ConsoleLine returns what the reference's returns, leaves its arguments as they are, and shares no memory. The variables hold what the program lays in them (the card ties that). -/
import Derived.Test.YthkckbidcpmckaaGreatDoorQZ
import Derived.Test.YthkckbidcpmckaaGreatDoorEnQ
import Derived.Test.YthkckbidcpmckaaGreatDoorClQConsoleLine
import Derived.Test.YthkckbidcpmckaaGreatDoorCdQ
import Derived.Test.YthkckbidcpmckaaGreatDoorFzZG
import Derived.Test.YthkckbidcpmckaaGreatDoorCards
import Derived.Test.YthkckbidcpmckaaGreatDoorTie
import Derived.Lib.LaidIn
import Derived.ProofKit
set_option linter.all false
namespace Go.Proofs.YthkckbidcpmckaaGreatDoor
open Go.Fx Go.Sh Go.ChangeShapes Go.WideShapes Go.ChangeAt Go.RowKit Go.Lib
theorem ZMB:ownKnob Tryz.prog.godebug=none:=by kernel_rfl
theorem ZMC:laidOutB Tryz.prog=true:=kc1
theorem ZMD:Tryz.prog.underlying 4=some .bool:=by kernel_rfl
theorem Zq9:Tryz.prog.globalNamed "internal/strconv.uint64pow10" =some 3:=by kernel_rfl
set_option maxRecDepth 100000
def ZAy:DataW Unit->Value
 | .lit (.int k n)=> .int k n
 | _=> .bool false
def ZME:DataW Unit->Array Value
 | .agg l=>(l.flatMap fun d=>match d with
  | .agg m=>m.map ZAy
  |d=> [ZAy d]).toArray
 | _=> #[]
def ZgU (h:Array Obj) (g:Nat) (d:DataW Unit):Array Obj:=h.modify g fun
 | .cells _ t frozen=> .cells (ZME d) t frozen
 |o=>o
noncomputable def ZlV (os:Os):World:=
 let w0:=World.holding Tryz.prog os ⟨#[],#[],[]⟩
 {w0 with heap:=ZgU (ZgU (ZgU (ZgU (ZgU (w0.heap) 4 Rows.laid_math_bits_deBruijn32tab) 5 Rows.laid_math_bits_deBruijn64tab) 3 Rows.laid_internal_strconv_uint64pow10) 2 Rows.laid_unicode_utf8_acceptRanges) 1 Rows.laid_unicode_utf8_first}
theorem ZMF:(Rows.laid_internal_strconv_uint64pow10:DataW Unit)=tabData .u64 pow10Tab:=by kernel_rfl
theorem ZMG {H:Type}:∀ds:List (DataW H),ds.length=Tryz.f3.params.toList.length->Rows.fnExactConsoleLineSpec.fn H ds={results:= [.lit (.bool true)],args:=ds}:=by
 intro ds h;cases ds with
 |nil=>cases h
 |cons d0 ds=>
  cases ds with
  |nil=>cases h
  |cons d1 ds=>
   cases ds with
   |nil=>rfl
   |cons _ _=>cases h
theorem ZMH:∀av,ZeK [(.st 13 [.sl 4 (Zka),Zkb, .sl 2 (Zkc),Zkd, .sl 3 (Zke), .bool, .sl 3 (Zkg), .int .i64, .int .i64]), .str] av->∃x r,ZlU.S x=some r/\ZlU.ps.enc x=(av,[])/\ZlU.rs.enc r=(Bl true,[]):=by
 intro av ha;obtain ⟨x,e,h⟩:=(ZDe (ZDb ZD3) (ZDd (ZDc ⟨rfl,fun _ _ h=>by cases h⟩ ZDa))) av ha;exact ⟨x,true,ZIF x h,by rw [e];rfl,rfl⟩
theorem ZMI (os:Os) (args:Array Value):laidMet Tryz.prog Rows.fnExactConsoleLineRow.laid ((ZlV os).forCall (fun _ _=>0) ⟨#[],args,[]⟩).memory:=
 (LaidIn.of_run [4,5,3,2,1] 8 (by kernel_rfl) (by kernel_rfl) (by kernel_rfl) (by kernel_rfl)).met
theorem witness_row (os:Os) {H:Type} (enc:TypeId×Value->H):
  (OpenSpec.ofChange Rows.fnExactConsoleLineSpec).preRow enc Tryz.prog Tryz.f3 Rows.fnExactConsoleLineRow.domain false Rows.fnExactConsoleLineRow.laid ((ZlV os).forCall (fun _ _=>0) ⟨#[],#[.agg #[.slice none 0 0, .slice none 0 0, .int .i64 0, .slice none 0 0, .int .i64 0, .slice none 0 0, .int .i64 0, .int .i64 0, .slice none 0 0, .bool false, .slice none 0 0, .int .i64 0, .int .i64 0], .string ⟨#[]⟩],[]⟩).memory #[.agg #[.slice none 0 0, .slice none 0 0, .int .i64 0, .slice none 0 0, .int .i64 0, .slice none 0 0, .int .i64 0, .int .i64 0, .slice none 0 0, .bool false, .slice none 0 0, .int .i64 0, .int .i64 0], .string ⟨#[]⟩]:=by
 have hw:(DataW.whole enc Tryz.prog ((ZlV os).forCall (fun _ _=>0) ⟨#[],#[.agg #[.slice none 0 0, .slice none 0 0, .int .i64 0, .slice none 0 0, .int .i64 0, .slice none 0 0, .int .i64 0, .int .i64 0, .slice none 0 0, .bool false, .slice none 0 0, .int .i64 0, .int .i64 0], .string ⟨#[]⟩],[]⟩).memory Tryz.f3.params.toList (OpenSpec.ofChange Rows.fnExactConsoleLineSpec).vars false (#[.agg #[.slice none 0 0, .slice none 0 0, .int .i64 0, .slice none 0 0, .int .i64 0, .slice none 0 0, .int .i64 0, .int .i64 0, .slice none 0 0, .bool false, .slice none 0 0, .int .i64 0, .int .i64 0], .string ⟨#[]⟩]:Array Value).toList 8).isSome=true:=by kernel_rfl
 obtain ⟨x,hx⟩:=Option.isSome_iff_exists.1 hw;exact OpenSpec.preRow_of_cond 8 hx rfl (fun k hk=>by cases hk) (by kernel_rfl) (ZMI os _)
theorem fnExactConsoleLine_lifted (os:Os) (started:os.Started) (H:Type) (enc:TypeId×Value->H) (F:Stop.Interp):
  ReturnsInHanded {} Tryz.checked os 3 .any ((OpenSpec.ofChange Rows.fnExactConsoleLineSpec).preRow enc Tryz.prog Tryz.f3 Rows.fnExactConsoleLineRow.domain false Rows.fnExactConsoleLineRow.laid) (((OpenSpec.ofChange Rows.fnExactConsoleLineSpec).at F).post enc Tryz.prog Tryz.f3 false true false false):=by
 refine returnsInHanded_of_row (C:=Tryz.checked) (s:=(OpenSpec.ofChange Rows.fnExactConsoleLineSpec)) ZMB started (by kernel_rfl) Tryz.func3
  (witness_row_atRef (enc:=enc) (C:=Tryz.checked) false (ZlV os) #[.agg #[.slice none 0 0, .slice none 0 0, .int .i64 0, .slice none 0 0, .int .i64 0, .slice none 0 0, .int .i64 0, .int .i64 0, .slice none 0 0, .bool false, .slice none 0 0, .int .i64 0, .int .i64 0], .string ⟨#[]⟩] rfl (by kernel_rfl) (by kernel_rfl) (by kernel_rfl) (witness_row os enc)) ?_
 intro W base args ds gs before hval hW _ _ _ hL hSh _;have hL':laidMet Tryz.prog Rows.fnExactConsoleLineRow.laid W:=hL;have ht:TabIs Tryz.prog W "internal/strconv.uint64pow10" .u64 pow10Tab:=by
  have h1:VarReads Tryz.prog W "internal/strconv.uint64pow10" Rows.laid_internal_strconv_uint64pow10:=laidMet.reads hL' (.tail _ (.tail _ (.head _)));rw [ZMF] at h1;exact ZMx Zq9 (by kernel_rfl) Tryz.underlying304 Tryz.underlying284 (by kernel_rfl) (by kernel_rfl) h1
 have hmx:∃m:Int,∀w:World,(∀b,b < nG->w.heap[b]? =W.heap[b]?)->w.cell? ⟨0,0,none⟩=some (.int .i64 m):=by
  obtain ⟨m,hm⟩:=Go.Proofs.cell_of_shapedOpen_int (g:=0) (zero:= #[.int .i64 0]) (t:=3) hSh (FF (by kernel_rfl)) (by kernel_rfl) rfl (by kernel_rfl) (by kernel_rfl) Tryz.underlying3;refine ⟨m,fun w hw=> ?_⟩;rw [←hm];unfold World.cell?;rw [hw 0 (by decide)]
 haveI:GOk (fun b=>W.heap[b]?):=⟨hmx,fun w hw=>ZMy Zq9 (by decide) ht hw⟩
 refine ZMA (s:=((OpenSpec.ofChange Rows.fnExactConsoleLineSpec).at F)) (ng:=nG) (G0:=fun b=>W.heap[b]?) (shs:= [(.st 13 [.sl 4 (Zka),Zkb, .sl 2 (Zkc),Zkd, .sl 3 (Zke), .bool, .sl 3 (Zkg), .int .i64, .int .i64]), .str]) (tb:=4) ZMt ZMC ?_ (by kernel_rfl) ZMD rfl ZMG (by kernel_rfl) ZMH (ZMz Zq9 ht) (fun _ _=>rfl) hval hW;exact fun t ht=>FF (MS.1 (show (Tryz.f3.params.toList.all fun t=>decide (Tryz.prog.readableRec t=true/\t < Tryz.prog.types.size))=true by kernel_rfl) t ht)
theorem fnExactConsoleLine_row:Rows.FnExactConsoleLineSaid:=
 OpenClaim.holds_of_cond 3 Tryz.f3 rfl rfl rfl rfl rfl rfl rfl ⟨rfl,rfl,rfl,rfl,rfl⟩ rfl rfl rfl rfl rfl (by kernel_rfl) Tryz.func3 closed
  (FF (by kernel_rfl)) (by unfold Func.isWrapper;first | (rw [Ul (by decide +kernel)];kernel_rfl) | (rw [Uf (by decide +kernel)];exact ⟨rfl,rfl⟩))
  (fun os started H enc _ F0=>by rw [OpenClaim.pre_eq_preRow];exact fnExactConsoleLine_lifted os started H enc F0)
theorem ZMJ:Rows.fnExactConsoleLineRow.wfByText (OpenSpec.ofChange Rows.fnExactConsoleLineSpec)=true:=by kernel_rfl
theorem ZMK:Tryz.prog.mainIs=some (true,"3dd9a2c0cdb5abcb3a38687a2481e99e537a759cb6709392ada594f957917ba6".toList):=by kernel_rfl
theorem ZML:Tryz.prog.funcNamed "loop.example/g03006/laws.FnExactConsoleLine" =some 3:=by kernel_rfl
theorem ZMM:(Tryz.f3.params.toList.all fun t=> !Tryz.prog.wantsStandIn t)=true:=by kernel_rfl
theorem fnExactConsoleLine_holds:Rows.FnExactConsoleLineCardSaid:=
 Claim7.holds_tied_plain_at .later [] [.data, .data, .data, .data, .pinned] true (true,"3dd9a2c0cdb5abcb3a38687a2481e99e537a759cb6709392ada594f957917ba6") false
  fnExactConsoleLine_row (fun _ h=>by cases h) ZMJ (fun _ h=>by cases h) fnExactConsoleLine_row_tie rfl ⟨rfl,rfl⟩ ZMK rfl
  (fun f fn hf hfn=>by
   obtain rfl:f=3:=Un (ZML.symm.trans hf) |>.symm;obtain rfl:fn=Tryz.f3:=(Un (Tryz.func3.symm.trans hfn)).symm;exact ⟨ZMw,fun j t ht=>by
    have h1:(Tryz.f3.params.toList.all fun t=> !Tryz.prog.wantsStandIn t)=true:=ZMM;have h2:=MS.1 h1 t (by
     rw [←Mo] at ht;exact Uk ht)
    have h3:Tryz.prog.wantsStandIn t=false:=by simpa using h2
    exact h3⟩)
  ZMv
#print axioms fnExactConsoleLine_holds
end Go.Proofs.YthkckbidcpmckaaGreatDoor
