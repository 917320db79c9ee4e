/- The program's ApplyEvent returns what the reference's returns. No condition. -/
import Derived.Test.YtiidjcgodncncaaGreatK2
import Derived.Test.YtiidjcgodncncaaGreatEnM
import Derived.Test.YtiidjcgodncncaaGreatClMApplyEvent
import Derived.ProofKit
set_option linter.all false
namespace Go.Proofs.YtiidjcgodncncaaGreat
open Go.Fx Go.Sh Go.ChangeShapes Go.WideShapes Go.ChangeAt Go.RowKit
theorem own_knob : ownKnob Tryz.prog.godebug = none := by kernel_rfl
theorem laid_out : laidOutB Tryz.prog = true := kc1
theorem under_bool : Tryz.prog.underlying 4 = some .bool := by kernel_rfl
set_option maxRecDepth 100000
theorem len_FnExactApplyEvent {H : Type} : ∀ ds : List (DataW H), ds.length = Tryz.f4.params.toList.length → Rows.fnExactApplyEventSpec.fn H ds = { results := [.lit (.bool true)], args := ds } := by
  intro ds h
  cases ds with
  | nil => cases h
  | cons d0 ds =>
    cases ds with
    | nil => cases h
    | cons d1 ds =>
      cases ds with
      | nil => rfl
      | cons _ _ => cases h
theorem ev_FnExactApplyEvent : ∀ av, ArgsVal [(.st 13 [.sl 4 (shPath), shControl, .sl 2 (shWant), shPrio, .sl 3 (shLamp), .bool, .sl 3 (shNote), .int .i64, .int .i64]), (.st 4 [.int .i64, .int .i64, .int .i64, .bool])] av → ∃ x r, E_lFnExactApplyEvent.S x = some r ∧ E_lFnExactApplyEvent.ps.enc x = (av, []) ∧ E_lFnExactApplyEvent.rs.enc r = (Bl true, []) := by
  intro av ha
  obtain ⟨x, e, h⟩ := (readsA_co (readA_st reads_town) (readsA_one (readA_st reads_evt))) av ha
  exact ⟨x, true, lFnExactApplyEvent_v x h, by rw [e]; rfl, rfl⟩
theorem fnExactApplyEvent_lifted (os : Os) (started : os.Started) (H : Type) (enc : TypeId × Value → H) :
    ReturnsInHanded {} Tryz.checked os 4 .any (Rows.fnExactApplyEventSpec.pre6 enc Tryz.prog Tryz.f4 Rows.fnExactApplyEventRow.domain false) (Rows.fnExactApplyEventSpec.post enc Tryz.prog Tryz.f4 false true false false) := by
  refine returnsInHanded_of_change (C := Tryz.checked) own_knob started (by kernel_rfl) Tryz.func4
    (ChangeSpec.witness6 (enc := enc) (C := Tryz.checked) false ⟨#[], #[.agg #[.slice none 0 0, .slice none 0 0, .int .i64 0, .slice none 0 0, .int .i64 0, .slice none 0 0, .int .i64 0, .int .i64 0, .slice none 0 0, .bool false, .slice none 0 0, .int .i64 0, .int .i64 0], .agg #[.int .i64 0, .int .i64 0, .int .i64 0, .bool false]], []⟩ 400 (by kernel_rfl) (by kernel_rfl) (by kernel_rfl) (by kernel_rfl)) ?_
  intro W base args ds gs before hval hW _ _
  refine law_true (shs := [(.st 13 [.sl 4 (shPath), shControl, .sl 2 (shWant), shPrio, .sl 3 (shLamp), .bool, .sl 3 (shNote), .int .i64, .int .i64]), (.st 4 [.int .i64, .int .i64, .int .i64, .bool])]) (tb := 4) ok_lFnExactApplyEvent laid_out ?_ (by kernel_rfl) under_bool rfl len_FnExactApplyEvent (by kernel_rfl) ev_FnExactApplyEvent hval hW
  exact fun t ht => of_decide_eq_true (List.all_eq_true.1 (show (Tryz.f4.params.toList.all fun t => decide (Tryz.prog.readableRec t = true ∧ t < Tryz.prog.types.size)) = true by kernel_rfl) t ht)
theorem fnExactApplyEvent_holds : Rows.FnExactApplyEventSaid :=
  OpenClaim.holds_of_wide 4 Tryz.f4 rfl rfl rfl rfl rfl rfl rfl ⟨rfl, rfl, rfl, rfl, rfl⟩ rfl rfl rfl rfl rfl (by kernel_rfl) Tryz.func4 closed
    (of_decide_eq_true (by kernel_rfl)) (by unfold Func.isWrapper; first | (rw [if_pos (by decide +kernel)]; kernel_rfl) | (rw [if_neg (by decide +kernel)]; exact ⟨rfl, rfl⟩))
    (fun os started H enc _ => fnExactApplyEvent_lifted os started H enc)
#print axioms fnExactApplyEvent_holds
end Go.Proofs.YtiidjcgodncncaaGreat
