/- For every input, FnViews of package laws returns true. The variables hold what the program lays in them (the card ties that). -/
import Derived.Test.YtjojcbmkcnkjoaaGreatDoorQW
import Derived.Test.YtjojcbmkcnkjoaaGreatDoorEnV
import Derived.Test.YtjojcbmkcnkjoaaGreatDoorClVViews
import Derived.Test.YtjojcbmkcnkjoaaGreatDoorFzZG
import Derived.Test.YtjojcbmkcnkjoaaGreatDoorCards
import Derived.Test.YtjojcbmkcnkjoaaGreatDoorTie
import Derived.Lib.LaidIn
import Derived.ProofKit
set_option linter.all false
namespace Go.Proofs.YtjojcbmkcnkjoaaGreatDoor
open Go.Fx Go.Sh Go.ChangeShapes Go.WideShapes Go.ChangeAt Go.RowKit Go.Lib
theorem own_knob : ownKnob Tryz.prog.godebug = none := by kernel_rfl
theorem laid_out : laidOutB Tryz.prog = true := kc1
theorem under_bool : Tryz.prog.underlying 4 = some .bool := by kernel_rfl
theorem glob_at : Tryz.prog.globalNamed "internal/strconv.uint64pow10" = some 1 := by kernel_rfl
set_option maxRecDepth 100000
def datV : DataW Unit → Value
  | .lit (.int k n) => .int k n
  | _ => .bool false
def datC : DataW Unit → Array Value
  | .agg l => (l.map datV).toArray
  | _ => #[]
def putC (h : Array Obj) (g : Nat) (d : DataW Unit) : Array Obj := h.modify g fun
  | .cells _ t frozen => .cells (datC d) t frozen
  | o => o
noncomputable def laidWorld (os : Os) : World :=
  let w0 := World.holding Tryz.prog os ⟨#[], #[], []⟩
  { w0 with heap := putC (putC (putC w0.heap 2 Rows.laid_math_bits_deBruijn32tab) 3 Rows.laid_math_bits_deBruijn64tab) 1 Rows.laid_internal_strconv_uint64pow10 }
theorem pow10_data : (Rows.laid_internal_strconv_uint64pow10 : DataW Unit) = tabData .u64 pow10Tab := by kernel_rfl
theorem len_FnViews {H : Type} : ∀ ds : List (DataW H), ds.length = Tryz.f3.params.toList.length → Rows.fnViewsSpec.fn H ds = { results := [.lit (.bool true)], args := ds } := by
  intro ds h
  cases ds with
  | nil => cases h
  | cons d0 ds =>
    cases ds with
    | nil => rfl
    | cons _ _ => cases h
theorem ev_FnViews : ∀ av, ArgsVal [.sl 1 (.int .u8)] av → ∃ x r, E_lFnViews.S x = some r ∧ E_lFnViews.ps.enc x = (av, []) ∧ E_lFnViews.rs.enc r = (Bl true, []) := by
  intro av ha
  obtain ⟨x, e, h⟩ := (readsA_one (readA_one ⟨rfl, fun _ _ h => by cases h⟩ (reads_sl 1 reads_u8))) av ha
  exact ⟨x, true, lFnViews_v x, by rw [e]; rfl, rfl⟩
theorem laid_met (os : Os) (args : Array Value) : laidMet Tryz.prog Rows.fnViewsRow.laid ((laidWorld os).forCall (fun _ _ => 0) ⟨#[], args, []⟩).memory :=
  (LaidIn.of_run [2, 3, 1] 8 (by kernel_rfl) (by kernel_rfl) (by kernel_rfl) (by kernel_rfl)).met
theorem witness_row (os : Os) {H : Type} (enc : TypeId × Value → H) :
    (OpenSpec.ofChange Rows.fnViewsSpec).preRow enc Tryz.prog Tryz.f3 Rows.fnViewsRow.domain false Rows.fnViewsRow.laid ((laidWorld os).forCall (fun _ _ => 0) ⟨#[], #[.slice none 0 0], []⟩).memory #[.slice none 0 0] := by
  have hw : (DataW.whole enc Tryz.prog ((laidWorld os).forCall (fun _ _ => 0) ⟨#[], #[.slice none 0 0], []⟩).memory Tryz.f3.params.toList (OpenSpec.ofChange Rows.fnViewsSpec).vars false (#[.slice none 0 0] : Array Value).toList 8).isSome = true := by kernel_rfl
  obtain ⟨x, hx⟩ := Option.isSome_iff_exists.1 hw
  exact OpenSpec.preRow_of_cond 8 hx rfl (fun k hk => by cases hk) (by kernel_rfl) (laid_met os _)
theorem fnViews_lifted (os : Os) (started : os.Started) (H : Type) (enc : TypeId × Value → H) (F : Stop.Interp) :
    ReturnsInHanded {} Tryz.checked os 3 .any ((OpenSpec.ofChange Rows.fnViewsSpec).preRow enc Tryz.prog Tryz.f3 Rows.fnViewsRow.domain false Rows.fnViewsRow.laid) (((OpenSpec.ofChange Rows.fnViewsSpec).at F).post enc Tryz.prog Tryz.f3 false true false false) := by
  refine returnsInHanded_of_row (C := Tryz.checked) (s := (OpenSpec.ofChange Rows.fnViewsSpec)) own_knob started (by kernel_rfl) Tryz.func3
    (witness_row_atRef (enc := enc) (C := Tryz.checked) false (laidWorld os) #[.slice none 0 0] rfl (by kernel_rfl) (by kernel_rfl) (by kernel_rfl) (witness_row os enc)) ?_
  intro W base args ds gs before hval hW _ _ _ hL _ _
  have hL' : laidMet Tryz.prog Rows.fnViewsRow.laid W := hL
  have ht : TabIs Tryz.prog W "internal/strconv.uint64pow10" .u64 pow10Tab := by
    have h1 : VarReads Tryz.prog W "internal/strconv.uint64pow10" Rows.laid_internal_strconv_uint64pow10 := laidMet.reads hL' (.tail _ (.tail _ (.head _)))
    rw [pow10_data] at h1
    exact tabIs_of_reads glob_at (by kernel_rfl) Tryz.underlying175 Tryz.underlying144 (by kernel_rfl) (by kernel_rfl) h1
  haveI : GOk (fun b => W.heap[b]?) := ⟨fun w hw => tabIs_same glob_at (by decide) ht hw⟩
  refine law_trueG (s := ((OpenSpec.ofChange Rows.fnViewsSpec).at F)) (ng := nG) (G0 := fun b => W.heap[b]?) (shs := [.sl 1 (.int .u8)]) (tb := 4) ok_lFnViews laid_out ?_ (by kernel_rfl) under_bool rfl len_FnViews (by kernel_rfl) ev_FnViews (tabIs_size glob_at ht) (fun _ _ => rfl) hval hW
  exact fun t ht => of_decide_eq_true (List.all_eq_true.1 (show (Tryz.f3.params.toList.all fun t => decide (Tryz.prog.readableRec t = true ∧ t < Tryz.prog.types.size)) = true by kernel_rfl) t ht)
theorem fnViews_row : Rows.FnViewsSaid :=
  OpenClaim.holds_of_cond 3 Tryz.f3 rfl rfl rfl rfl rfl rfl rfl ⟨rfl, rfl, rfl, rfl, rfl⟩ rfl rfl rfl rfl rfl (by kernel_rfl) Tryz.func3 closed
    (of_decide_eq_true (by kernel_rfl)) (by unfold Func.isWrapper; first | (rw [if_pos (by decide +kernel)]; kernel_rfl) | (rw [if_neg (by decide +kernel)]; exact ⟨rfl, rfl⟩))
    (fun os started H enc _ F0 => by rw [OpenClaim.pre_eq_preRow]; exact fnViews_lifted os started H enc F0)
theorem fnViews_holds : Rows.FnViewsCardSaid :=
  Claim7.holds_tied_plain_at .later [] [.data, .data, .data] true (true, "b3bd2d780b57b00348f7c675e439bf83234c25e862180684defa81f1626804f6") false
    fnViews_row (fun _ h => by cases h) (by kernel_rfl) (fun _ h => by cases h) fnViews_row_tie rfl ⟨rfl, rfl⟩ (by kernel_rfl) rfl
    (fun f fn hf hfn => by
      obtain rfl : f = 3 := Option.some.inj ((show Tryz.prog.funcNamed "loop.example/g03006/laws.FnViews" = some 3 by kernel_rfl).symm.trans hf) |>.symm
      obtain rfl : fn = Tryz.f3 := (Option.some.inj (Tryz.func3.symm.trans hfn)).symm
      exact ⟨by kernel_rfl, fun j t ht => by
        have h1 : (Tryz.f3.params.toList.all fun t => !Tryz.prog.wantsStandIn t) = true := by kernel_rfl
        have h2 := List.all_eq_true.1 h1 t (by
          rw [← Array.getElem?_toList] at ht
          exact List.mem_of_getElem? ht)
        have h3 : Tryz.prog.wantsStandIn t = false := by simpa using h2
        exact h3⟩)
    (by kernel_rfl)
#print axioms fnViews_holds
end Go.Proofs.YtjojcbmkcnkjoaaGreatDoor
