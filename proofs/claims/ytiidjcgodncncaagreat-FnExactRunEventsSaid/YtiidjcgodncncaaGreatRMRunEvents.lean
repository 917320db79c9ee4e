/- The program's RunEvents returns what the reference's returns. No condition. -/
import Derived.Test.YtiidjcgodncncaaGreatK2
import Derived.Test.YtiidjcgodncncaaGreatEnM
import Derived.Test.YtiidjcgodncncaaGreatClMRunEvents
import Derived.ProofKit
set_option linter.all false
namespace Go.Proofs.YtiidjcgodncncaaGreat
open Go.Fx Go.Sh Go.ChangeShapes Go.WideShapes Go.ChangeAt Go.RowKit
theorem own_knob : ownKnob Tryz.prog.godebug = none := by kernel_rfl
theorem laid_out : laidOutB Tryz.prog = true := kc1
theorem under_bool : Tryz.prog.underlying 4 = some .bool := by kernel_rfl
set_option maxRecDepth 100000
theorem len_FnExactRunEvents {H : Type} : ∀ ds : List (DataW H), ds.length = Tryz.f5.params.toList.length → Rows.fnExactRunEventsSpec.fn H ds = { results := [.lit (.bool true)], args := ds } := by
  intro ds h
  cases ds with
  | nil => cases h
  | cons d0 ds =>
    cases ds with
    | nil => cases h
    | cons d1 ds =>
      cases ds with
      | nil => rfl
      | cons _ _ => cases h
theorem ev_FnExactRunEvents : ∀ av, ArgsVal [(.st 13 [.sl 4 (shPath), shControl, .sl 2 (shWant), shPrio, .sl 3 (shLamp), .bool, .sl 3 (shNote), .int .i64, .int .i64]), .sl 4 (shEvt)] av → ∃ x r, E_lFnExactRunEvents.S x = some r ∧ E_lFnExactRunEvents.ps.enc x = (av, []) ∧ E_lFnExactRunEvents.rs.enc r = (Bl true, []) := by
  intro av ha
  obtain ⟨x, e, h⟩ := (readsA_co (readA_st reads_town) (readsA_one (readA_one ⟨rfl, fun _ _ h => by cases h⟩ (reads_sl 4 reads_evt)))) av ha
  exact ⟨x, true, lFnExactRunEvents_v x h, by rw [e]; rfl, rfl⟩
theorem fnExactRunEvents_lifted (os : Os) (started : os.Started) (H : Type) (enc : TypeId × Value → H) :
    ReturnsInHanded {} Tryz.checked os 5 .any (Rows.fnExactRunEventsSpec.pre6 enc Tryz.prog Tryz.f5 Rows.fnExactRunEventsRow.domain false) (Rows.fnExactRunEventsSpec.post enc Tryz.prog Tryz.f5 false true false false) := by
  refine returnsInHanded_of_change (C := Tryz.checked) own_knob started (by kernel_rfl) Tryz.func5
    (ChangeSpec.witness6 (enc := enc) (C := Tryz.checked) false ⟨#[], #[.agg #[.slice none 0 0, .slice none 0 0, .int .i64 0, .slice none 0 0, .int .i64 0, .slice none 0 0, .int .i64 0, .int .i64 0, .slice none 0 0, .bool false, .slice none 0 0, .int .i64 0, .int .i64 0], .slice none 0 0], []⟩ 400 (by kernel_rfl) (by kernel_rfl) (by kernel_rfl) (by kernel_rfl)) ?_
  intro W base args ds gs before hval hW _ _
  refine law_true (shs := [(.st 13 [.sl 4 (shPath), shControl, .sl 2 (shWant), shPrio, .sl 3 (shLamp), .bool, .sl 3 (shNote), .int .i64, .int .i64]), .sl 4 (shEvt)]) (tb := 4) ok_lFnExactRunEvents laid_out ?_ (by kernel_rfl) under_bool rfl len_FnExactRunEvents (by kernel_rfl) ev_FnExactRunEvents hval hW
  exact fun t ht => of_decide_eq_true (List.all_eq_true.1 (show (Tryz.f5.params.toList.all fun t => decide (Tryz.prog.readableRec t = true ∧ t < Tryz.prog.types.size)) = true by kernel_rfl) t ht)
theorem fnExactRunEvents_holds : Rows.FnExactRunEventsSaid :=
  OpenClaim.holds_of_wide 5 Tryz.f5 rfl rfl rfl rfl rfl rfl rfl ⟨rfl, rfl, rfl, rfl, rfl⟩ rfl rfl rfl rfl rfl (by kernel_rfl) Tryz.func5 closed
    (of_decide_eq_true (by kernel_rfl)) (by unfold Func.isWrapper; first | (rw [if_pos (by decide +kernel)]; kernel_rfl) | (rw [if_neg (by decide +kernel)]; exact ⟨rfl, rfl⟩))
    (fun os started H enc _ => fnExactRunEvents_lifted os started H enc)
#print axioms fnExactRunEvents_holds
end Go.Proofs.YtiidjcgodncncaaGreat
