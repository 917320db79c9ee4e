/- How many paths each stage lets go is told as it is. No condition. -/
import Derived.Test.YtkbhcieejpbjpaaSt4
import Derived.Test.YtkbhcieejpbjpaaEnS
import Derived.Test.YtkbhcieejpbjpaaClSStageSizes
import Derived.ProofKit
set_option linter.all false
namespace Go.Proofs.Ytkbhcieejpbjpaa
open Go.Fx Go.Sh Go.ChangeShapes Go.WideShapes Go.ChangeAt Go.RowKit
theorem own_knob : ownKnob Try.prog.godebug = none := by kernel_rfl
theorem laid_out : laidOutB Try.prog = true := kc1
theorem under_bool : Try.prog.underlying 4 = some .bool := by kernel_rfl
set_option maxRecDepth 100000
theorem len_FnExactStageSizes {H : Type} : ∀ ds : List (DataW H), ds.length = Try.f3.params.toList.length → Rows.fnExactStageSizesSpec.fn H ds = { results := [.lit (.bool true)], args := ds } := by
  intro ds h
  cases ds with
  | nil => cases h
  | cons d0 ds =>
    cases ds with
    | nil => rfl
    | cons _ _ => cases h
theorem ev_FnExactStageSizes : ∀ av, ArgsVal [.sl 4 (shPath)] av → ∃ x r, E_lFnExactStageSizes.S x = some r ∧ E_lFnExactStageSizes.ps.enc x = (av, []) ∧ E_lFnExactStageSizes.rs.enc r = (Bl true, []) := by
  intro av ha
  obtain ⟨x, e, h⟩ := (readsA_one (readA_one ⟨rfl, fun _ _ h => by cases h⟩ (reads_sl 4 reads_path))) av ha
  exact ⟨x, true, lFnExactStageSizes_v x h, by rw [e]; rfl, rfl⟩
theorem fnExactStageSizes_lifted (os : Os) (started : os.Started) (H : Type) (enc : TypeId × Value → H) :
    ReturnsInHanded {} Try.checked os 3 .any (Rows.fnExactStageSizesSpec.pre6 enc Try.prog Try.f3 Rows.fnExactStageSizesRow.domain false) (Rows.fnExactStageSizesSpec.post enc Try.prog Try.f3 false true false false) := by
  refine returnsInHanded_of_change (C := Try.checked) own_knob started (by kernel_rfl) Try.func3
    (ChangeSpec.witness6 (enc := enc) (C := Try.checked) false ⟨#[], #[.slice none 0 0], []⟩ 400 (by kernel_rfl) (by kernel_rfl) (by kernel_rfl) (by kernel_rfl)) ?_
  intro W base args ds gs before hval hW _ _
  refine law_true (shs := [.sl 4 (shPath)]) (tb := 4) ok_lFnExactStageSizes laid_out ?_ (by kernel_rfl) under_bool rfl len_FnExactStageSizes (by kernel_rfl) ev_FnExactStageSizes hval hW
  exact fun t ht => of_decide_eq_true (List.all_eq_true.1 (show (Try.f3.params.toList.all fun t => decide (Try.prog.readableRec t = true ∧ t < Try.prog.types.size)) = true by kernel_rfl) t ht)
theorem fnExactStageSizes_holds : Rows.FnExactStageSizesSaid :=
  OpenClaim.holds_of_wide 3 Try.f3 rfl rfl rfl rfl rfl rfl rfl ⟨rfl, rfl, rfl, rfl, rfl⟩ rfl rfl rfl rfl rfl (by kernel_rfl) Try.func3 closed
    (of_decide_eq_true (by kernel_rfl)) (by unfold Func.isWrapper; first | (rw [if_pos (by decide +kernel)]; kernel_rfl) | (rw [if_neg (by decide +kernel)]; exact ⟨rfl, rfl⟩))
    (fun os started H enc _ => fnExactStageSizes_lifted os started H enc)
#print axioms fnExactStageSizes_holds
end Go.Proofs.Ytkbhcieejpbjpaa
