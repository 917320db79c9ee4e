/- SeenNow returns what the reference returns, leaves its arguments alone, and shares no memory. No condition. -/
import Derived.Test.YtabjaeobdmahlaaH1
import Derived.Test.YtabjaeobdmahlaaEn9
import Derived.ProofKit
set_option linter.all false
namespace Go.Proofs.Ytabjaeobdmahlaa
open Go.Fx Go.Sh Go.ChangeShapes Go.WideShapes Go.ChangeAt Go.RowKit
theorem own_knob : ownKnob Try.prog.godebug = none := by kernel_rfl
theorem laid_out : laidOutB Try.prog = true := by kernel_rfl
theorem under_bool : Try.prog.underlying 4 = some .bool := by kernel_rfl
set_option maxRecDepth 100000
theorem len_FnExactSeenNow {H : Type} : ∀ ds : List (DataW H), ds.length = Try.f3.params.toList.length → Rows.fnExactSeenNowSpec.fn H ds = { results := [.lit (.bool true)], args := ds } := by
  intro ds h
  cases ds with
  | nil => cases h
  | cons d0 ds =>
    cases ds with
    | nil => rfl
    | cons _ _ => cases h
theorem ev_FnExactSeenNow : ∀ av, ArgsVal [(.st 13 [.sl 4 (shPath), shControl, .sl 2 (shWant), shPrio, .sl 3 (shLamp), .bool, .sl 3 (shNote), .int .i64, .int .i64])] av → ∃ x r, E_lFnExactSeenNow.S x = some r ∧ E_lFnExactSeenNow.ps.enc x = (av, []) ∧ E_lFnExactSeenNow.rs.enc r = (Bl true, []) := by
  intro av ha
  obtain ⟨x, e, h⟩ := (readsA_one (readA_st reads_town)) av ha
  exact ⟨x, true, lFnExactSeenNow_v x h, by rw [e]; rfl, rfl⟩
theorem fnExactSeenNow_lifted (os : Os) (started : os.Started) (H : Type) (enc : TypeId × Value → H) :
    ReturnsInHanded {} Try.checked os 3 .any (Rows.fnExactSeenNowSpec.pre6 enc Try.prog Try.f3 Rows.fnExactSeenNowRow.domain false) (Rows.fnExactSeenNowSpec.post enc Try.prog Try.f3 false true false false) := by
  refine returnsInHanded_of_change (C := Try.checked) own_knob started (by kernel_rfl) Try.func3
    (ChangeSpec.witness6 (enc := enc) (C := Try.checked) false ⟨#[], #[.agg #[.slice none 0 0, .slice none 0 0, .int .i64 0, .slice none 0 0, .int .i64 0, .slice none 0 0, .int .i64 0, .int .i64 0, .slice none 0 0, .bool false, .slice none 0 0, .int .i64 0, .int .i64 0]], []⟩ 400 (by kernel_rfl) (by kernel_rfl) (by kernel_rfl) (by kernel_rfl)) ?_
  intro W base args ds gs before hval hW _ _
  refine law_true (shs := [(.st 13 [.sl 4 (shPath), shControl, .sl 2 (shWant), shPrio, .sl 3 (shLamp), .bool, .sl 3 (shNote), .int .i64, .int .i64])]) (tb := 4) ok_lFnExactSeenNow laid_out ?_ (by kernel_rfl) under_bool rfl len_FnExactSeenNow (by kernel_rfl) ev_FnExactSeenNow hval hW
  exact fun t ht => of_decide_eq_true (List.all_eq_true.1 (show (Try.f3.params.toList.all fun t => decide (Try.prog.readableRec t = true ∧ t < Try.prog.types.size)) = true by kernel_rfl) t ht)

theorem fnExactSeenNow_holds : Rows.FnExactSeenNowSaid :=
  OpenClaim.holds_of_wide 3 Try.f3 rfl rfl rfl rfl rfl rfl rfl ⟨rfl, rfl, rfl, rfl, rfl⟩ rfl rfl rfl rfl rfl (by kernel_rfl) Try.func3 (by kernel_rfl)
    (of_decide_eq_true (by kernel_rfl)) (by unfold Func.isWrapper; first | (rw [if_pos (by decide +kernel)]; kernel_rfl) | (rw [if_neg (by decide +kernel)]; exact ⟨rfl, rfl⟩))
    (fun os started H enc _ => fnExactSeenNow_lifted os started H enc)

#print axioms fnExactSeenNow_holds
end Go.Proofs.Ytabjaeobdmahlaa
