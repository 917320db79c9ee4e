/- StepSeconds of the program gives what the reference gives. No condition. -/
import Derived.Test.YtjgfhonfmjfabaaGreatJ5
import Derived.Test.YtjgfhonfmjfabaaGreatEnC
import Derived.Test.YtjgfhonfmjfabaaGreatClCStepSeconds
import Derived.ProofKit
set_option linter.all false
namespace Go.Proofs.YtjgfhonfmjfabaaGreat
open Go.Fx Go.Sh Go.ChangeShapes Go.WideShapes Go.ChangeAt Go.RowKit
theorem own_knob : ownKnob Tryz.prog.godebug = none := by kernel_rfl
theorem laid_out : laidOutB Tryz.prog = true := kc1
theorem under_bool : Tryz.prog.underlying 4 = some .bool := by kernel_rfl
set_option maxRecDepth 100000
theorem len_FnExactStepSeconds {H : Type} : ∀ ds : List (DataW H), ds.length = Tryz.f11.params.toList.length → Rows.fnExactStepSecondsSpec.fn H ds = { results := [.lit (.bool true)], args := ds } := by
  intro ds h
  cases ds with
  | nil => cases h
  | cons d0 ds =>
    cases ds with
    | nil => cases h
    | cons d1 ds =>
      cases ds with
      | nil => rfl
      | cons _ _ => cases h
theorem ev_FnExactStepSeconds : ∀ av, ArgsVal [(.st 13 [.sl 4 (shPath), shControl, .sl 2 (shWant), shPrio, .sl 3 (shLamp), .bool, .sl 3 (shNote), .int .i64, .int .i64]), .int .i64] av → ∃ x r, E_lFnExactStepSeconds.S x = some r ∧ E_lFnExactStepSeconds.ps.enc x = (av, []) ∧ E_lFnExactStepSeconds.rs.enc r = (Bl true, []) := by
  intro av ha
  obtain ⟨x, e, h⟩ := (readsA_co (readA_st reads_town) (readsA_one (readA_one ⟨rfl, fun _ _ h => by cases h⟩ reads_int))) av ha
  exact ⟨x, true, lFnExactStepSeconds_v x h, by rw [e]; rfl, rfl⟩
theorem fnExactStepSeconds_lifted (os : Os) (started : os.Started) (H : Type) (enc : TypeId × Value → H) :
    ReturnsInHanded {} Tryz.checked os 11 .any (Rows.fnExactStepSecondsSpec.pre6 enc Tryz.prog Tryz.f11 Rows.fnExactStepSecondsRow.domain false) (Rows.fnExactStepSecondsSpec.post enc Tryz.prog Tryz.f11 false true false false) := by
  refine returnsInHanded_of_change (C := Tryz.checked) own_knob started (by kernel_rfl) Tryz.func11
    (ChangeSpec.witness6 (enc := enc) (C := Tryz.checked) false ⟨#[], #[.agg #[.slice none 0 0, .slice none 0 0, .int .i64 0, .slice none 0 0, .int .i64 0, .slice none 0 0, .int .i64 0, .int .i64 0, .slice none 0 0, .bool false, .slice none 0 0, .int .i64 0, .int .i64 0], .int .i64 0], []⟩ 400 (by kernel_rfl) (by kernel_rfl) (by kernel_rfl) (by kernel_rfl)) ?_
  intro W base args ds gs before hval hW _ _
  refine law_true (shs := [(.st 13 [.sl 4 (shPath), shControl, .sl 2 (shWant), shPrio, .sl 3 (shLamp), .bool, .sl 3 (shNote), .int .i64, .int .i64]), .int .i64]) (tb := 4) ok_lFnExactStepSeconds laid_out ?_ (by kernel_rfl) under_bool rfl len_FnExactStepSeconds (by kernel_rfl) ev_FnExactStepSeconds hval hW
  exact fun t ht => of_decide_eq_true (List.all_eq_true.1 (show (Tryz.f11.params.toList.all fun t => decide (Tryz.prog.readableRec t = true ∧ t < Tryz.prog.types.size)) = true by kernel_rfl) t ht)

theorem fnExactStepSeconds_holds : Rows.FnExactStepSecondsSaid :=
  OpenClaim.holds_of_wide 11 Tryz.f11 rfl rfl rfl rfl rfl rfl rfl ⟨rfl, rfl, rfl, rfl, rfl⟩ rfl rfl rfl rfl rfl (by kernel_rfl) Tryz.func11 closed
    (of_decide_eq_true (by kernel_rfl)) (by unfold Func.isWrapper; first | (rw [if_pos (by decide +kernel)]; kernel_rfl) | (rw [if_neg (by decide +kernel)]; exact ⟨rfl, rfl⟩))
    (fun os started H enc _ => fnExactStepSeconds_lifted os started H enc)

#print axioms fnExactStepSeconds_holds
end Go.Proofs.YtjgfhonfmjfabaaGreat
