/- For every list of ints, FnExactFormatLights of package laws returns true. No condition. -/
import Derived.Test.YtdeoffkhnkdhmaaP6
import Derived.Test.YtdeoffkhnkdhmaaEn1
import Derived.ProofKit
set_option linter.all false
namespace Go.Proofs.Ytdeoffkhnkdhmaa
open Go.Fx Go.Sh Go.ChangeShapes Go.WideShapes Go.ChangeAt Go.RowKit
theorem own_knob : ownKnob Try.prog.godebug = none := by kernel_rfl
theorem laid_out : laidOutB Try.prog = true := by kernel_rfl
theorem under_bool : Try.prog.underlying 4 = some .bool := by kernel_rfl
set_option maxRecDepth 100000
theorem len_FnExactFormatLights {H : Type} : ∀ ds : List (DataW H), ds.length = Try.f12.params.toList.length → Rows.fnExactFormatLightsSpec.fn H ds = { results := [.lit (.bool true)], args := ds } := by
  intro ds h
  cases ds with
  | nil => cases h
  | cons d0 ds =>
    cases ds with
    | nil => rfl
    | cons _ _ => cases h
theorem ev_FnExactFormatLights : ∀ av, ArgsVal [.sl 1 (.int .i64)] av → ∃ x r, E_lFnExactFormatLights.S x = some r ∧ E_lFnExactFormatLights.ps.enc x = (av, []) ∧ E_lFnExactFormatLights.rs.enc r = (Bl true, []) := by
  intro av ha
  obtain ⟨x, e, h⟩ := (readsA_one (readA_one ⟨rfl, fun _ _ h => by cases h⟩ (reads_sl 1 reads_int))) av ha
  exact ⟨x, true, lFnExactFormatLights_v x, by rw [e]; rfl, rfl⟩
theorem fnExactFormatLights_lifted (os : Os) (started : os.Started) (H : Type) (enc : TypeId × Value → H) :
    ReturnsInHanded {} Try.checked os 12 .any (Rows.fnExactFormatLightsSpec.pre6 enc Try.prog Try.f12 Rows.fnExactFormatLightsRow.domain false) (Rows.fnExactFormatLightsSpec.post enc Try.prog Try.f12 false true false false) := by
  refine returnsInHanded_of_change (C := Try.checked) own_knob started (by kernel_rfl) Try.func12
    (ChangeSpec.witness6 (enc := enc) (C := Try.checked) false ⟨#[], #[.slice none 0 0], []⟩ 400 (by kernel_rfl) (by kernel_rfl) (by kernel_rfl) (by kernel_rfl)) ?_
  intro W base args ds gs before hval hW _ _
  refine law_true (shs := [.sl 1 (.int .i64)]) (tb := 4) ok_lFnExactFormatLights laid_out ?_ (by kernel_rfl) under_bool rfl len_FnExactFormatLights (by kernel_rfl) ev_FnExactFormatLights hval hW
  exact fun t ht => of_decide_eq_true (List.all_eq_true.1 (show (Try.f12.params.toList.all fun t => decide (Try.prog.readableRec t = true ∧ t < Try.prog.types.size)) = true by kernel_rfl) t ht)

theorem fnExactFormatLights_holds : Rows.FnExactFormatLightsSaid :=
  OpenClaim.holds_of_wide 12 Try.f12 rfl rfl rfl rfl rfl rfl rfl ⟨rfl, rfl, rfl, rfl, rfl⟩ rfl rfl rfl rfl rfl (by kernel_rfl) Try.func12 (by kernel_rfl)
    (of_decide_eq_true (by kernel_rfl)) (by unfold Func.isWrapper; first | (rw [if_pos (by decide +kernel)]; kernel_rfl) | (rw [if_neg (by decide +kernel)]; exact ⟨rfl, rfl⟩))
    (fun os started H enc _ => fnExactFormatLights_lifted os started H enc)

#print axioms fnExactFormatLights_holds
end Go.Proofs.Ytdeoffkhnkdhmaa
