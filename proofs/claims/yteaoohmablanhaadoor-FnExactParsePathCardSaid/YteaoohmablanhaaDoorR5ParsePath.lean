/- The program's ParsePath returns what the reference's returns, for all arguments. The variables hold what the program lays in them (the card ties that). -/
import Derived.Test.YteaoohmablanhaaDoorE3
import Derived.Test.YteaoohmablanhaaDoorEn5
import Derived.Test.YteaoohmablanhaaDoorFxZG
import Derived.Test.YteaoohmablanhaaDoorCards
import Derived.Test.YteaoohmablanhaaDoorTie
import Derived.Lib.LaidIn
import Derived.ProofKit
set_option linter.all false
namespace Go.Proofs.YteaoohmablanhaaDoor
open Go.Fx Go.Sh Go.ChangeShapes Go.WideShapes Go.ChangeAt Go.RowKit Go.Lib
theorem own_knob : ownKnob Tryd.prog.godebug = none := by kernel_rfl
theorem laid_out : laidOutB Tryd.prog = true := by kernel_rfl
theorem under_bool : Tryd.prog.underlying 4 = some .bool := by kernel_rfl
theorem glob_at : Tryd.prog.globalNamed "internal/strconv.uint64pow10" = some 1 := by kernel_rfl
set_option maxRecDepth 100000
def datV : DataW Unit → Value
  | .lit (.int k n) => .int k n
  | _ => .bool false
def datC : DataW Unit → Array Value
  | .agg l => (l.map datV).toArray
  | _ => #[]
def putC (h : Array Obj) (g : Nat) (d : DataW Unit) : Array Obj := h.modify g fun
  | .cells _ t frozen => .cells (datC d) t frozen
  | o => o
noncomputable def laidWorld (os : Os) : World :=
  let w0 := World.holding Tryd.prog os ⟨#[], #[], []⟩
  { w0 with heap := putC (putC (putC w0.heap 2 Rows.laid_math_bits_deBruijn32tab) 3 Rows.laid_math_bits_deBruijn64tab) 1 Rows.laid_internal_strconv_uint64pow10 }
theorem pow10_data : (Rows.laid_internal_strconv_uint64pow10 : DataW Unit) = tabData .u64 pow10Tab := by kernel_rfl
theorem len_FnExactParsePath {H : Type} : ∀ ds : List (DataW H), ds.length = Tryd.f3.params.toList.length → Rows.fnExactParsePathSpec.fn H ds = { results := [.lit (.bool true)], args := ds } := by
  intro ds h
  cases ds with
  | nil => cases h
  | cons d0 ds =>
    cases ds with
    | nil => rfl
    | cons _ _ => cases h
theorem ev_FnExactParsePath : ∀ av, ArgsVal [.str] av → ∃ x r, E_lFnExactParsePath.S x = some r ∧ E_lFnExactParsePath.ps.enc x = (av, []) ∧ E_lFnExactParsePath.rs.enc r = (Bl true, []) := by
  intro av ha
  obtain ⟨x, e, h⟩ := (readsA_one (readA_one ⟨rfl, fun _ _ h => by cases h⟩ reads_str)) av ha
  exact ⟨x, true, lFnExactParsePath_v x h, by rw [e]; rfl, rfl⟩
theorem laid_met (os : Os) (args : Array Value) : laidMet Tryd.prog Rows.fnExactParsePathRow.laid ((laidWorld os).forCall (fun _ _ => 0) ⟨#[], args, []⟩).memory :=
  (LaidIn.of_run [2, 3, 1] 8 (by kernel_rfl) (by kernel_rfl) (by kernel_rfl) (by kernel_rfl)).met
theorem witness_row (os : Os) {H : Type} (enc : TypeId × Value → H) :
    (OpenSpec.ofChange Rows.fnExactParsePathSpec).preRow enc Tryd.prog Tryd.f3 Rows.fnExactParsePathRow.domain false Rows.fnExactParsePathRow.laid ((laidWorld os).forCall (fun _ _ => 0) ⟨#[], #[.string ⟨#[]⟩], []⟩).memory #[.string ⟨#[]⟩] := by
  have hw : (DataW.whole enc Tryd.prog ((laidWorld os).forCall (fun _ _ => 0) ⟨#[], #[.string ⟨#[]⟩], []⟩).memory Tryd.f3.params.toList (OpenSpec.ofChange Rows.fnExactParsePathSpec).vars false (#[.string ⟨#[]⟩] : Array Value).toList 8).isSome = true := by kernel_rfl
  obtain ⟨x, hx⟩ := Option.isSome_iff_exists.1 hw
  exact OpenSpec.preRow_of_cond 8 hx rfl (fun k hk => by cases hk) (by kernel_rfl) (laid_met os _)
theorem fnExactParsePath_lifted (os : Os) (started : os.Started) (H : Type) (enc : TypeId × Value → H) (F : Stop.Interp) :
    ReturnsInHanded {} Tryd.checked os 3 .any ((OpenSpec.ofChange Rows.fnExactParsePathSpec).preRow enc Tryd.prog Tryd.f3 Rows.fnExactParsePathRow.domain false Rows.fnExactParsePathRow.laid) (((OpenSpec.ofChange Rows.fnExactParsePathSpec).at F).post enc Tryd.prog Tryd.f3 false true false false) := by
  refine returnsInHanded_of_row (C := Tryd.checked) (s := (OpenSpec.ofChange Rows.fnExactParsePathSpec)) own_knob started (by kernel_rfl) Tryd.func3
    (witness_row_atRef (enc := enc) (C := Tryd.checked) false (laidWorld os) #[.string ⟨#[]⟩] rfl (by kernel_rfl) (by kernel_rfl) (by kernel_rfl) (witness_row os enc)) ?_
  intro W base args ds gs before hval hW _ _ _ hL _ _
  have hL' : laidMet Tryd.prog Rows.fnExactParsePathRow.laid W := hL
  have ht : TabIs Tryd.prog W "internal/strconv.uint64pow10" .u64 pow10Tab := by
    have h1 : VarReads Tryd.prog W "internal/strconv.uint64pow10" Rows.laid_internal_strconv_uint64pow10 := laidMet.reads hL' (.tail _ (.tail _ (.head _)))
    rw [pow10_data] at h1
    exact tabIs_of_reads glob_at (by kernel_rfl) Tryd.underlying78 Tryd.underlying68 (by kernel_rfl) (by kernel_rfl) h1
  haveI : GOk (fun b => W.heap[b]?) := ⟨fun w hw => tabIs_same glob_at (by decide) ht hw⟩
  refine law_trueG (s := ((OpenSpec.ofChange Rows.fnExactParsePathSpec).at F)) (ng := nG) (G0 := fun b => W.heap[b]?) (shs := [.str]) (tb := 4) ok_lFnExactParsePath laid_out ?_ (by kernel_rfl) under_bool rfl len_FnExactParsePath (by kernel_rfl) ev_FnExactParsePath (tabIs_size glob_at ht) (fun _ _ => rfl) hval hW
  exact fun t ht => of_decide_eq_true (List.all_eq_true.1 (show (Tryd.f3.params.toList.all fun t => decide (Tryd.prog.readableRec t = true ∧ t < Tryd.prog.types.size)) = true by kernel_rfl) t ht)

theorem fnExactParsePath_row : Rows.FnExactParsePathSaid :=
  OpenClaim.holds_of_cond 3 Tryd.f3 rfl rfl rfl rfl rfl rfl rfl ⟨rfl, rfl, rfl, rfl, rfl⟩ rfl rfl rfl rfl rfl (by kernel_rfl) Tryd.func3 (by kernel_rfl)
    (of_decide_eq_true (by kernel_rfl)) (by unfold Func.isWrapper; first | (rw [if_pos (by decide +kernel)]; kernel_rfl) | (rw [if_neg (by decide +kernel)]; exact ⟨rfl, rfl⟩))
    (fun os started H enc _ F0 => by rw [OpenClaim.pre_eq_preRow]; exact fnExactParsePath_lifted os started H enc F0)
theorem fnExactParsePath_holds : Rows.FnExactParsePathCardSaid :=
  Claim7.holds_tied_plain_at .later [] [.data, .data, .data] true (true, "bfd7efb9255886aeafce824ee43e4e0172939cc2ef6bccca7f41ac557bebfbd8") false
    fnExactParsePath_row (fun _ h => by cases h) (by kernel_rfl) (fun _ h => by cases h) fnExactParsePath_row_tie rfl ⟨rfl, rfl⟩ (by kernel_rfl) rfl
    (fun f fn hf hfn => by
      obtain rfl : f = 3 := Option.some.inj ((show Tryd.prog.funcNamed "loop.example/g03006/laws.FnExactParsePath" = some 3 by kernel_rfl).symm.trans hf) |>.symm
      obtain rfl : fn = Tryd.f3 := (Option.some.inj (Tryd.func3.symm.trans hfn)).symm
      exact ⟨by kernel_rfl, fun j t ht => by
        have h1 : (Tryd.f3.params.toList.all fun t => !Tryd.prog.wantsStandIn t) = true := by kernel_rfl
        have h2 := List.all_eq_true.1 h1 t (by
          rw [← Array.getElem?_toList] at ht
          exact List.mem_of_getElem? ht)
        have h3 : Tryd.prog.wantsStandIn t = false := by simpa using h2
        exact h3⟩)
    (by kernel_rfl)

#print axioms fnExactParsePath_holds
end Go.Proofs.YteaoohmablanhaaDoor
