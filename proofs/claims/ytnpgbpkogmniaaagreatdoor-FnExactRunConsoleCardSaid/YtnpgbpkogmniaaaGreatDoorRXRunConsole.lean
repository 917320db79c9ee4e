/- For every text, FnExactRunConsole of package laws returns true. The variables hold what the program lays in them (the card ties that). -/
import Derived.Test.YtnpgbpkogmniaaaGreatDoorQZ
import Derived.Test.YtnpgbpkogmniaaaGreatDoorEnX
import Derived.Test.YtnpgbpkogmniaaaGreatDoorClXRunConsole
import Derived.Test.YtnpgbpkogmniaaaGreatDoorFzZG
import Derived.Test.YtnpgbpkogmniaaaGreatDoorCards
import Derived.Test.YtnpgbpkogmniaaaGreatDoorTie
import Derived.Lib.LaidIn
import Derived.ProofKit
set_option linter.all false
namespace Go.Proofs.YtnpgbpkogmniaaaGreatDoor
open Go.Fx Go.Sh Go.ChangeShapes Go.WideShapes Go.ChangeAt Go.RowKit Go.Lib
theorem ZJy:ownKnob Tryz.prog.godebug=none:=by kernel_rfl
theorem ZJz:laidOutB Tryz.prog=true:=kc1
theorem ZJA:Tryz.prog.underlying 4=some .bool:=by kernel_rfl
theorem ZpR:Tryz.prog.globalNamed "internal/strconv.uint64pow10" =some 3:=by kernel_rfl
set_option maxRecDepth 100000
def Zyy:DataW Unit->Value
 | .lit (.int k n)=> .int k n
 | _=> .bool false
def ZJB:DataW Unit->Array Value
 | .agg l=>(l.flatMap fun d=>match d with
  | .agg m=>m.map Zyy
  |d=> [Zyy d]).toArray
 | _=> #[]
def Zgw (h:Array Obj) (g:Nat) (d:DataW Unit):Array Obj:=h.modify g fun
 | .cells _ t frozen=> .cells (ZJB d) t frozen
 |o=>o
noncomputable def ZkY (os:Os):World:=
 let w0:=World.holding Tryz.prog os ⟨#[],#[],[]⟩
 {w0 with heap:=Zgw (Zgw (Zgw (Zgw (Zgw (w0.heap) 4 Rows.laid_math_bits_deBruijn32tab) 5 Rows.laid_math_bits_deBruijn64tab) 3 Rows.laid_internal_strconv_uint64pow10) 2 Rows.laid_unicode_utf8_acceptRanges) 1 Rows.laid_unicode_utf8_first}
theorem ZJC:(Rows.laid_internal_strconv_uint64pow10:DataW Unit)=tabData .u64 pow10Tab:=by kernel_rfl
theorem ZJD {H:Type}:∀ds:List (DataW H),ds.length=Tryz.f3.params.toList.length->Rows.fnExactRunConsoleSpec.fn H ds={results:= [.lit (.bool true)],args:=ds}:=by
 intro ds h;cases ds with
 |nil=>cases h
 |cons d0 ds=>
  cases ds with
  |nil=>rfl
  |cons _ _=>cases h
theorem ZJE:∀av,Zez [.str] av->∃x r,ZkX.S x=some r/\ZkX.ps.enc x=(av,[])/\ZkX.rs.enc r=(Bl true,[]):=by
 intro av ha;obtain ⟨x,e,h⟩:=(ZBd (ZBc ⟨rfl,fun _ _ h=>by cases h⟩ ZBa)) av ha;exact ⟨x,true,ZGg x,by rw [e];rfl,rfl⟩
theorem ZJF (os:Os) (args:Array Value):laidMet Tryz.prog Rows.fnExactRunConsoleRow.laid ((ZkY os).forCall (fun _ _=>0) ⟨#[],args,[]⟩).memory:=
 (LaidIn.of_run [4,5,3,2,1] 8 (by kernel_rfl) (by kernel_rfl) (by kernel_rfl) (by kernel_rfl)).met
theorem witness_row (os:Os) {H:Type} (enc:TypeId×Value->H):
  (OpenSpec.ofChange Rows.fnExactRunConsoleSpec).preRow enc Tryz.prog Tryz.f3 Rows.fnExactRunConsoleRow.domain false Rows.fnExactRunConsoleRow.laid ((ZkY os).forCall (fun _ _=>0) ⟨#[],#[.string ⟨#[]⟩],[]⟩).memory #[.string ⟨#[]⟩]:=by
 have hw:(DataW.whole enc Tryz.prog ((ZkY os).forCall (fun _ _=>0) ⟨#[],#[.string ⟨#[]⟩],[]⟩).memory Tryz.f3.params.toList (OpenSpec.ofChange Rows.fnExactRunConsoleSpec).vars false (#[.string ⟨#[]⟩]:Array Value).toList 8).isSome=true:=by kernel_rfl
 obtain ⟨x,hx⟩:=Option.isSome_iff_exists.1 hw;exact OpenSpec.preRow_of_cond 8 hx rfl (fun k hk=>by cases hk) (by kernel_rfl) (ZJF os _)
theorem fnExactRunConsole_lifted (os:Os) (started:os.Started) (H:Type) (enc:TypeId×Value->H) (F:Stop.Interp):
  ReturnsInHanded {} Tryz.checked os 3 .any ((OpenSpec.ofChange Rows.fnExactRunConsoleSpec).preRow enc Tryz.prog Tryz.f3 Rows.fnExactRunConsoleRow.domain false Rows.fnExactRunConsoleRow.laid) (((OpenSpec.ofChange Rows.fnExactRunConsoleSpec).at F).post enc Tryz.prog Tryz.f3 false true false false):=by
 refine returnsInHanded_of_row (C:=Tryz.checked) (s:=(OpenSpec.ofChange Rows.fnExactRunConsoleSpec)) ZJy started (by kernel_rfl) Tryz.func3
  (witness_row_atRef (enc:=enc) (C:=Tryz.checked) false (ZkY os) #[.string ⟨#[]⟩] rfl (by kernel_rfl) (by kernel_rfl) (by kernel_rfl) (witness_row os enc)) ?_
 intro W base args ds gs before hval hW _ _ _ hL hSh _;have hL':laidMet Tryz.prog Rows.fnExactRunConsoleRow.laid W:=hL;have ht:TabIs Tryz.prog W "internal/strconv.uint64pow10" .u64 pow10Tab:=by
  have h1:VarReads Tryz.prog W "internal/strconv.uint64pow10" Rows.laid_internal_strconv_uint64pow10:=laidMet.reads hL' (.tail _ (.tail _ (.head _)));rw [ZJC] at h1;exact ZJu ZpR (by kernel_rfl) Tryz.underlying309 Tryz.underlying289 (by kernel_rfl) (by kernel_rfl) h1
 have hmx:∃m:Int,∀w:World,(∀b,b < nG->w.heap[b]? =W.heap[b]?)->w.cell? ⟨0,0,none⟩=some (.int .i64 m):=by
  obtain ⟨m,hm⟩:=Go.Proofs.cell_of_shapedOpen_int (g:=0) (zero:= #[.int .i64 0]) (t:=3) hSh (FE (by kernel_rfl)) (by kernel_rfl) rfl (by kernel_rfl) (by kernel_rfl) Tryz.underlying3;refine ⟨m,fun w hw=> ?_⟩;rw [←hm];unfold World.cell?;rw [hw 0 (by decide)]
 haveI:GOk (fun b=>W.heap[b]?):=⟨hmx,fun w hw=>ZJv ZpR (by decide) ht hw⟩
 refine ZJx (s:=((OpenSpec.ofChange Rows.fnExactRunConsoleSpec).at F)) (ng:=nG) (G0:=fun b=>W.heap[b]?) (shs:= [.str]) (tb:=4) ZJt ZJz ?_ (by kernel_rfl) ZJA rfl ZJD (by kernel_rfl) ZJE (ZJw ZpR ht) (fun _ _=>rfl) hval hW;exact fun t ht=>FE (MT.1 (show (Tryz.f3.params.toList.all fun t=>decide (Tryz.prog.readableRec t=true/\t < Tryz.prog.types.size))=true by kernel_rfl) t ht)
theorem fnExactRunConsole_row:Rows.FnExactRunConsoleSaid:=
 OpenClaim.holds_of_cond 3 Tryz.f3 rfl rfl rfl rfl rfl rfl rfl ⟨rfl,rfl,rfl,rfl,rfl⟩ rfl rfl rfl rfl rfl (by kernel_rfl) Tryz.func3 closed
  (FE (by kernel_rfl)) (by unfold Func.isWrapper;first | (rw [Uh (by decide +kernel)];kernel_rfl) | (rw [Uf (by decide +kernel)];exact ⟨rfl,rfl⟩))
  (fun os started H enc _ F0=>by rw [OpenClaim.pre_eq_preRow];exact fnExactRunConsole_lifted os started H enc F0)
theorem ZJG:Rows.fnExactRunConsoleRow.wfByText (OpenSpec.ofChange Rows.fnExactRunConsoleSpec)=true:=by kernel_rfl
theorem ZJH:Tryz.prog.mainIs=some (true,"2030e6a6d8c2c88d9ff11c0ee414c1d3a2dacca4c3fba3e638247ce014b28740".toList):=by kernel_rfl
theorem ZJI:Tryz.prog.funcNamed "loop.example/g03006/laws.FnExactRunConsole" =some 3:=by kernel_rfl
theorem ZJJ:(Tryz.f3.params.toList.all fun t=> !Tryz.prog.wantsStandIn t)=true:=by kernel_rfl
theorem ZJK:false=Tryz.prog.looks []:=by kernel_rfl
theorem goesN {P:Program} (h:P.funcs.toList.any Func.goes=false) (f:FuncId):P.goes f=false:=by
 have h1:∀g:Nat,(P.funcs[g]?).any Func.goes=false:=fun g=>by
  cases hg:P.funcs[g]? with
  |none=>rfl
  |some fn=>
   rw [←Array.getElem?_toList] at hg;have:=List.any_eq_false.1 h fn (List.mem_of_getElem? hg);simpa using this
 have h2:P.funcs.any Func.goes=false:=by rw [←Array.any_toList];exact h
 unfold Program.goes;simp [h1,h2]
theorem ZJL:false=Rows.fnExactRunConsoleRow.goesBy Tryz.prog:=by
 have h:=goesN (P:=Tryz.prog) (by kernel_rfl);unfold OpenClaim.goesBy Program.goesAt Program.goesFrom;cases Tryz.prog.funcNamed Rows.fnExactRunConsoleRow.func <;> cases Rows.fnExactRunConsoleRow.start <;> simp [h]
theorem fnExactRunConsole_holds:Rows.FnExactRunConsoleCardSaid:=
 Claim7.holds_tied_plain_at .later [] [.data, .data, .data, .data, .pinned] true (true,"2030e6a6d8c2c88d9ff11c0ee414c1d3a2dacca4c3fba3e638247ce014b28740") false
  fnExactRunConsole_row (fun _ h=>by cases h) ZJG (fun _ h=>by cases h) fnExactRunConsole_row_tie rfl ⟨rfl,rfl⟩ ZJH rfl
  (fun f fn hf hfn=>by
   obtain rfl:f=3:=Uo (ZJI.symm.trans hf) |>.symm;obtain rfl:fn=Tryz.f3:=(Uo (Tryz.func3.symm.trans hfn)).symm;exact ⟨ZJK,fun j t ht=>by
    have h1:(Tryz.f3.params.toList.all fun t=> !Tryz.prog.wantsStandIn t)=true:=ZJJ;have h2:=MT.1 h1 t (by
     rw [←Mv] at ht;exact Um ht)
    have h3:Tryz.prog.wantsStandIn t=false:=by simpa using h2
    exact h3⟩)
  ZJL
#print axioms fnExactRunConsole_holds
end Go.Proofs.YtnpgbpkogmniaaaGreatDoor
