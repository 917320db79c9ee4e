/- AllServices returns what the reference returns, leaves its arguments alone, and shares no memory. No condition. -/
import Derived.Test.YteaoohmablanhaaG5
import Derived.Test.YteaoohmablanhaaEn7
import Derived.ProofKit
set_option linter.all false
namespace Go.Proofs.Yteaoohmablanhaa
open Go.Fx Go.Sh Go.ChangeShapes Go.WideShapes Go.ChangeAt Go.RowKit
theorem own_knob : ownKnob Try.prog.godebug = none := by kernel_rfl
theorem laid_out : laidOutB Try.prog = true := by kernel_rfl
theorem under_bool : Try.prog.underlying 4 = some .bool := by kernel_rfl
set_option maxRecDepth 100000
theorem len_FnExactAllServices {H : Type} : ∀ ds : List (DataW H), ds.length = Try.f6.params.toList.length → Rows.fnExactAllServicesSpec.fn H ds = { results := [.lit (.bool true)], args := ds } := by
  intro ds h
  cases ds with
  | nil => cases h
  | cons d0 ds =>
    cases ds with
    | nil => cases h
    | cons d1 ds =>
      cases ds with
      | nil => rfl
      | cons _ _ => cases h
theorem ev_FnExactAllServices : ∀ av, ArgsVal [.sl 4 (shPath), .sl 2 (shPart)] av → ∃ x r, E_lFnExactAllServices.S x = some r ∧ E_lFnExactAllServices.ps.enc x = (av, []) ∧ E_lFnExactAllServices.rs.enc r = (Bl true, []) := by
  intro av ha
  obtain ⟨x, e, h⟩ := (readsA_co (readA_one ⟨rfl, fun _ _ h => by cases h⟩ (reads_sl 4 reads_path)) (readsA_one (readA_one ⟨rfl, fun _ _ h => by cases h⟩ (reads_sl 2 reads_part)))) av ha
  exact ⟨x, true, lFnExactAllServices_v x h, by rw [e]; rfl, rfl⟩
theorem fnExactAllServices_lifted (os : Os) (started : os.Started) (H : Type) (enc : TypeId × Value → H) :
    ReturnsInHanded {} Try.checked os 6 .any (Rows.fnExactAllServicesSpec.pre6 enc Try.prog Try.f6 Rows.fnExactAllServicesRow.domain false) (Rows.fnExactAllServicesSpec.post enc Try.prog Try.f6 false true false false) := by
  refine returnsInHanded_of_change (C := Try.checked) own_knob started (by kernel_rfl) Try.func6
    (ChangeSpec.witness6 (enc := enc) (C := Try.checked) false ⟨#[], #[.slice none 0 0, .slice none 0 0], []⟩ 400 (by kernel_rfl) (by kernel_rfl) (by kernel_rfl) (by kernel_rfl)) ?_
  intro W base args ds gs before hval hW _ _
  refine law_true (shs := [.sl 4 (shPath), .sl 2 (shPart)]) (tb := 4) ok_lFnExactAllServices laid_out ?_ (by kernel_rfl) under_bool rfl len_FnExactAllServices (by kernel_rfl) ev_FnExactAllServices hval hW
  exact fun t ht => of_decide_eq_true (List.all_eq_true.1 (show (Try.f6.params.toList.all fun t => decide (Try.prog.readableRec t = true ∧ t < Try.prog.types.size)) = true by kernel_rfl) t ht)

theorem fnExactAllServices_holds : Rows.FnExactAllServicesSaid :=
  OpenClaim.holds_of_wide 6 Try.f6 rfl rfl rfl rfl rfl rfl rfl ⟨rfl, rfl, rfl, rfl, rfl⟩ rfl rfl rfl rfl rfl (by kernel_rfl) Try.func6 (by kernel_rfl)
    (of_decide_eq_true (by kernel_rfl)) (by unfold Func.isWrapper; first | (rw [if_pos (by decide +kernel)]; kernel_rfl) | (rw [if_neg (by decide +kernel)]; exact ⟨rfl, rfl⟩))
    (fun os started H enc _ => fnExactAllServices_lifted os started H enc)

#print axioms fnExactAllServices_holds
end Go.Proofs.Yteaoohmablanhaa
