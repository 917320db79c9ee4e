/- Counts tell what there is. No condition. -/
import Derived.Test.YtkbhcieejpbjpaaGreatMe3
import Derived.Test.YtkbhcieejpbjpaaGreatEnM
import Derived.Test.YtkbhcieejpbjpaaGreatClMMeasured
import Derived.ProofKit
set_option linter.all false
namespace Go.Proofs.YtkbhcieejpbjpaaGreat
open Go.Fx Go.Sh Go.ChangeShapes Go.WideShapes Go.ChangeAt Go.RowKit
theorem own_knob : ownKnob Tryz.prog.godebug = none := by kernel_rfl
theorem laid_out : laidOutB Tryz.prog = true := kc1
theorem under_bool : Tryz.prog.underlying 4 = some .bool := by kernel_rfl
set_option maxRecDepth 100000
theorem len_FnMeasured {H : Type} : ∀ ds : List (DataW H), ds.length = Tryz.f4.params.toList.length → Rows.fnMeasuredSpec.fn H ds = { results := [.lit (.bool true)], args := ds } := by
  intro ds h
  cases ds with
  | nil => cases h
  | cons d0 ds =>
    cases ds with
    | nil => rfl
    | cons _ _ => cases h
theorem ev_FnMeasured : ∀ av, ArgsVal [.sl 1 (.int .u8)] av → ∃ x r, E_lFnMeasured.S x = some r ∧ E_lFnMeasured.ps.enc x = (av, []) ∧ E_lFnMeasured.rs.enc r = (Bl true, []) := by
  intro av ha
  obtain ⟨x, e, h⟩ := (readsA_one (readA_one ⟨rfl, fun _ _ h => by cases h⟩ (reads_sl 1 reads_u8))) av ha
  exact ⟨x, true, lFnMeasured_v x h, by rw [e]; rfl, rfl⟩
theorem fnMeasured_lifted (os : Os) (started : os.Started) (H : Type) (enc : TypeId × Value → H) :
    ReturnsInHanded {} Tryz.checked os 4 .any (Rows.fnMeasuredSpec.pre6 enc Tryz.prog Tryz.f4 Rows.fnMeasuredRow.domain false) (Rows.fnMeasuredSpec.post enc Tryz.prog Tryz.f4 false true false false) := by
  refine returnsInHanded_of_change (C := Tryz.checked) own_knob started (by kernel_rfl) Tryz.func4
    (ChangeSpec.witness6 (enc := enc) (C := Tryz.checked) false ⟨#[], #[.slice none 0 0], []⟩ 400 (by kernel_rfl) (by kernel_rfl) (by kernel_rfl) (by kernel_rfl)) ?_
  intro W base args ds gs before hval hW _ _
  refine law_true (shs := [.sl 1 (.int .u8)]) (tb := 4) ok_lFnMeasured laid_out ?_ (by kernel_rfl) under_bool rfl len_FnMeasured (by kernel_rfl) ev_FnMeasured hval hW
  exact fun t ht => of_decide_eq_true (List.all_eq_true.1 (show (Tryz.f4.params.toList.all fun t => decide (Tryz.prog.readableRec t = true ∧ t < Tryz.prog.types.size)) = true by kernel_rfl) t ht)
theorem fnMeasured_holds : Rows.FnMeasuredSaid :=
  OpenClaim.holds_of_wide 4 Tryz.f4 rfl rfl rfl rfl rfl rfl rfl ⟨rfl, rfl, rfl, rfl, rfl⟩ rfl rfl rfl rfl rfl (by kernel_rfl) Tryz.func4 closed
    (of_decide_eq_true (by kernel_rfl)) (by unfold Func.isWrapper; first | (rw [if_pos (by decide +kernel)]; kernel_rfl) | (rw [if_neg (by decide +kernel)]; exact ⟨rfl, rfl⟩))
    (fun os started H enc _ => fnMeasured_lifted os started H enc)
#print axioms fnMeasured_holds
end Go.Proofs.YtkbhcieejpbjpaaGreat
