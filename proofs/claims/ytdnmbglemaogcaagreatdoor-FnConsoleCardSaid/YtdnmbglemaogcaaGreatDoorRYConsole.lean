/- For every input, FnConsole of package laws returns true. The variables hold what the program lays in them (the card ties that). -/
import Derived.Test.YtdnmbglemaogcaaGreatDoorDZ
import Derived.Test.YtdnmbglemaogcaaGreatDoorEnY
import Derived.Test.YtdnmbglemaogcaaGreatDoorClYConsole
import Derived.Test.YtdnmbglemaogcaaGreatDoorFzZG
import Derived.Test.YtdnmbglemaogcaaGreatDoorCards
import Derived.Test.YtdnmbglemaogcaaGreatDoorTie
import Derived.Lib.LaidIn
import Derived.ProofKit
set_option linter.all false
namespace Go.Proofs.YtdnmbglemaogcaaGreatDoor
open Go.Fx Go.Sh Go.ChangeShapes Go.WideShapes Go.ChangeAt Go.RowKit Go.Lib
theorem ZHw:ownKnob Tryz.prog.godebug=none:=by kernel_rfl
theorem ZHx:laidOutB Tryz.prog=true:=kc1
theorem ZHy:Tryz.prog.underlying 4=some .bool:=by kernel_rfl
theorem Zo2:Tryz.prog.globalNamed "internal/strconv.uint64pow10" =some 1:=by kernel_rfl
set_option maxRecDepth 100000
def Zw4:DataW Unit->Value
 | .lit (.int k n)=> .int k n
 | _=> .bool false
def ZHz:DataW Unit->Array Value
 | .agg l=>(l.flatMap fun d=>match d with
  | .agg m=>m.map Zw4
  |d=> [Zw4 d]).toArray
 | _=> #[]
def ZfW (h:Array Obj) (g:Nat) (d:DataW Unit):Array Obj:=h.modify g fun
 | .cells _ t frozen=> .cells (ZHz d) t frozen
 |o=>o
noncomputable def Zkj (os:Os):World:=
 let w0:=World.holding Tryz.prog os ⟨#[],#[],[]⟩
 {w0 with heap:=ZfW (ZfW (ZfW (ZfW (ZfW (w0.heap) 4 Rows.laid_math_bits_deBruijn32tab) 5 Rows.laid_math_bits_deBruijn64tab) 1 Rows.laid_internal_strconv_uint64pow10) 3 Rows.laid_unicode_utf8_acceptRanges) 2 Rows.laid_unicode_utf8_first}
theorem ZHA:(Rows.laid_internal_strconv_uint64pow10:DataW Unit)=tabData .u64 pow10Tab:=by kernel_rfl
theorem ZHB {H:Type}:∀ds:List (DataW H),ds.length=Tryz.f3.params.toList.length->Rows.fnConsoleSpec.fn H ds={results:= [.lit (.bool true)],args:=ds}:=by
 intro ds h;cases ds with
 |nil=>cases h
 |cons d0 ds=>
  cases ds with
  |nil=>rfl
  |cons _ _=>cases h
theorem ZHC:∀av,Zef [.sl 1 (.int .u8)] av->∃x r,Zki.S x=some r/\Zki.ps.enc x=(av,[])/\Zki.rs.enc r=(Bl true,[]):=by
 intro av ha;obtain ⟨x,e,h⟩:=(ZzJ (ZzI ⟨rfl,fun _ _ h=>by cases h⟩ (ZzG 1 ZzF))) av ha;exact ⟨x,true,ZED x,by rw [e];rfl,rfl⟩
theorem ZHD (os:Os) (args:Array Value):laidMet Tryz.prog Rows.fnConsoleRow.laid ((Zkj os).forCall (fun _ _=>0) ⟨#[],args,[]⟩).memory:=
 (LaidIn.of_run [4,5,1,3,2] 8 (by kernel_rfl) (by kernel_rfl) (by kernel_rfl) (by kernel_rfl)).met
theorem witness_row (os:Os) {H:Type} (enc:TypeId×Value->H):
  (OpenSpec.ofChange Rows.fnConsoleSpec).preRow enc Tryz.prog Tryz.f3 Rows.fnConsoleRow.domain false Rows.fnConsoleRow.laid ((Zkj os).forCall (fun _ _=>0) ⟨#[],#[.slice none 0 0],[]⟩).memory #[.slice none 0 0]:=by
 have hw:(DataW.whole enc Tryz.prog ((Zkj os).forCall (fun _ _=>0) ⟨#[],#[.slice none 0 0],[]⟩).memory Tryz.f3.params.toList (OpenSpec.ofChange Rows.fnConsoleSpec).vars false (#[.slice none 0 0]:Array Value).toList 8).isSome=true:=by kernel_rfl
 obtain ⟨x,hx⟩:=Option.isSome_iff_exists.1 hw;exact OpenSpec.preRow_of_cond 8 hx rfl (fun k hk=>by cases hk) (by kernel_rfl) (ZHD os _)
theorem fnConsole_lifted (os:Os) (started:os.Started) (H:Type) (enc:TypeId×Value->H) (F:Stop.Interp):
  ReturnsInHanded {} Tryz.checked os 3 .any ((OpenSpec.ofChange Rows.fnConsoleSpec).preRow enc Tryz.prog Tryz.f3 Rows.fnConsoleRow.domain false Rows.fnConsoleRow.laid) (((OpenSpec.ofChange Rows.fnConsoleSpec).at F).post enc Tryz.prog Tryz.f3 false true false false):=by
 refine returnsInHanded_of_row (C:=Tryz.checked) (s:=(OpenSpec.ofChange Rows.fnConsoleSpec)) ZHw started (by kernel_rfl) Tryz.func3
  (witness_row_atRef (enc:=enc) (C:=Tryz.checked) false (Zkj os) #[.slice none 0 0] rfl (by kernel_rfl) (by kernel_rfl) (by kernel_rfl) (witness_row os enc)) ?_
 intro W base args ds gs before hval hW _ _ _ hL hSh _;have hL':laidMet Tryz.prog Rows.fnConsoleRow.laid W:=hL;have ht:TabIs Tryz.prog W "internal/strconv.uint64pow10" .u64 pow10Tab:=by
  have h1:VarReads Tryz.prog W "internal/strconv.uint64pow10" Rows.laid_internal_strconv_uint64pow10:=laidMet.reads hL' (.tail _ (.tail _ (.head _)));rw [ZHA] at h1;exact ZHs Zo2 (by kernel_rfl) Tryz.underlying234 Tryz.underlying200 (by kernel_rfl) (by kernel_rfl) h1
 have hmx:∃m:Int,∀w:World,(∀b,b < nG->w.heap[b]? =W.heap[b]?)->w.cell? ⟨0,0,none⟩=some (.int .i64 m):=by
  obtain ⟨m,hm⟩:=Go.Proofs.cell_of_shapedOpen_int (g:=0) (zero:= #[.int .i64 0]) (t:=3) hSh (Fg (by kernel_rfl)) (by kernel_rfl) rfl (by kernel_rfl) (by kernel_rfl) Tryz.underlying3;refine ⟨m,fun w hw=> ?_⟩;rw [←hm];unfold World.cell?;rw [hw 0 (by decide)]
 haveI:GOk (fun b=>W.heap[b]?):=⟨hmx,fun w hw=>ZHt Zo2 (by decide) ht hw⟩
 refine ZHv (s:=((OpenSpec.ofChange Rows.fnConsoleSpec).at F)) (ng:=nG) (G0:=fun b=>W.heap[b]?) (shs:= [.sl 1 (.int .u8)]) (tb:=4) ZHr ZHx ?_ (by kernel_rfl) ZHy rfl ZHB (by kernel_rfl) ZHC (ZHu Zo2 ht) (fun _ _=>rfl) hval hW;exact fun t ht=>Fg (MW.1 (show (Tryz.f3.params.toList.all fun t=>decide (Tryz.prog.readableRec t=true/\t < Tryz.prog.types.size))=true by kernel_rfl) t ht)
theorem fnConsole_row:Rows.FnConsoleSaid:=
 OpenClaim.holds_of_cond 3 Tryz.f3 rfl rfl rfl rfl rfl rfl rfl ⟨rfl,rfl,rfl,rfl,rfl⟩ rfl rfl rfl rfl rfl (by kernel_rfl) Tryz.func3 closed
  (Fg (by kernel_rfl)) (by unfold Func.isWrapper;first | (rw [Uj (by decide +kernel)];kernel_rfl) | (rw [Ui (by decide +kernel)];exact ⟨rfl,rfl⟩))
  (fun os started H enc _ F0=>by rw [OpenClaim.pre_eq_preRow];exact fnConsole_lifted os started H enc F0)
theorem ZHE:Rows.fnConsoleRow.wfByText (OpenSpec.ofChange Rows.fnConsoleSpec)=true:=by kernel_rfl
theorem ZHF:Tryz.prog.mainIs=some (true,"d696fb82e88650b43706cd8618ce4f98c36d0b34b6d40dc290bc78a0c8a103e4".toList):=by kernel_rfl
theorem ZHG:Tryz.prog.funcNamed "loop.example/g03006/laws.FnConsole" =some 3:=by kernel_rfl
theorem ZHH:(Tryz.f3.params.toList.all fun t=> !Tryz.prog.wantsStandIn t)=true:=by kernel_rfl
theorem ZHI:false=Tryz.prog.looks []:=by kernel_rfl
theorem ZHJ:false=Rows.fnConsoleRow.goesBy Tryz.prog:=by kernel_rfl
theorem fnConsole_holds:Rows.FnConsoleCardSaid:=
 Claim7.holds_tied_plain_at .later [] [.data, .data, .data, .data, .pinned] true (true,"d696fb82e88650b43706cd8618ce4f98c36d0b34b6d40dc290bc78a0c8a103e4") false
  fnConsole_row (fun _ h=>by cases h) ZHE (fun _ h=>by cases h) fnConsole_row_tie rfl ⟨rfl,rfl⟩ ZHF rfl
  (fun f fn hf hfn=>by
   obtain rfl:f=3:=UB (ZHG.symm.trans hf) |>.symm;obtain rfl:fn=Tryz.f3:=(UB (Tryz.func3.symm.trans hfn)).symm;exact ⟨ZHI,fun j t ht=>by
    have h1:(Tryz.f3.params.toList.all fun t=> !Tryz.prog.wantsStandIn t)=true:=ZHH;have h2:=MW.1 h1 t (by
     rw [←Mv] at ht;exact Uu ht)
    have h3:Tryz.prog.wantsStandIn t=false:=by simpa using h2
    exact h3⟩)
  ZHJ
#print axioms fnConsole_holds
end Go.Proofs.YtdnmbglemaogcaaGreatDoor
