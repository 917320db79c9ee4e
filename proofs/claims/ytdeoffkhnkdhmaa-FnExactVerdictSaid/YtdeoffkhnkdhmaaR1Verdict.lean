/- For every two reports, the function FnExactVerdict of package laws returns true. No condition. -/
import Derived.Test.YtdeoffkhnkdhmaaL1
import Derived.Test.YtdeoffkhnkdhmaaEn1
import Derived.ProofKit
set_option linter.all false
namespace Go.Proofs.Ytdeoffkhnkdhmaa
open Go.Fx Go.Sh Go.ChangeShapes Go.WideShapes Go.ChangeAt Go.RowKit
theorem own_knob : ownKnob Try.prog.godebug = none := by kernel_rfl
theorem laid_out : laidOutB Try.prog = true := by kernel_rfl
theorem under_bool : Try.prog.underlying 4 = some .bool := by kernel_rfl
set_option maxRecDepth 100000
theorem len_FnExactVerdict {H : Type} : ∀ ds : List (DataW H), ds.length = Try.f4.params.toList.length → Rows.fnExactVerdictSpec.fn H ds = { results := [.lit (.bool true)], args := ds } := by
  intro ds h
  cases ds with
  | nil => cases h
  | cons d0 ds =>
    cases ds with
    | nil => cases h
    | cons d1 ds =>
      cases ds with
      | nil => rfl
      | cons _ _ => cases h
theorem ev_FnExactVerdict : ∀ av, ArgsVal [(.st 5 [.int .i64, .int .i64, .int .i64, .int .i64, .int .i64]), (.st 5 [.int .i64, .int .i64, .int .i64, .int .i64, .int .i64])] av → ∃ x r, E_lFnExactVerdict.S x = some r ∧ E_lFnExactVerdict.ps.enc x = (av, []) ∧ E_lFnExactVerdict.rs.enc r = (Bl true, []) := by
  intro av ha
  obtain ⟨x, e, h⟩ := (readsA_co (readA_st reads_report) (readsA_one (readA_st reads_report))) av ha
  exact ⟨x, true, lFnExactVerdict_v x.1 x.2, by rw [e]; rfl, rfl⟩
theorem fnExactVerdict_lifted (os : Os) (started : os.Started) (H : Type) (enc : TypeId × Value → H) :
    ReturnsInHanded {} Try.checked os 4 .any (Rows.fnExactVerdictSpec.pre6 enc Try.prog Try.f4 Rows.fnExactVerdictRow.domain false) (Rows.fnExactVerdictSpec.post enc Try.prog Try.f4 false true false false) := by
  refine returnsInHanded_of_change (C := Try.checked) own_knob started (by kernel_rfl) Try.func4
    (ChangeSpec.witness6 (enc := enc) (C := Try.checked) false ⟨#[], #[.agg #[.int .i64 0, .int .i64 0, .int .i64 0, .int .i64 0, .int .i64 0], .agg #[.int .i64 0, .int .i64 0, .int .i64 0, .int .i64 0, .int .i64 0]], []⟩ 400 (by kernel_rfl) (by kernel_rfl) (by kernel_rfl) (by kernel_rfl)) ?_
  intro W base args ds gs before hval hW _ _
  refine law_true (shs := [(.st 5 [.int .i64, .int .i64, .int .i64, .int .i64, .int .i64]), (.st 5 [.int .i64, .int .i64, .int .i64, .int .i64, .int .i64])]) (tb := 4) ok_lFnExactVerdict laid_out ?_ (by kernel_rfl) under_bool rfl len_FnExactVerdict (by kernel_rfl) ev_FnExactVerdict hval hW
  exact fun t ht => of_decide_eq_true (List.all_eq_true.1 (show (Try.f4.params.toList.all fun t => decide (Try.prog.readableRec t = true ∧ t < Try.prog.types.size)) = true by kernel_rfl) t ht)

theorem fnExactVerdict_holds : Rows.FnExactVerdictSaid :=
  OpenClaim.holds_of_wide 4 Try.f4 rfl rfl rfl rfl rfl rfl rfl ⟨rfl, rfl, rfl, rfl, rfl⟩ rfl rfl rfl rfl rfl (by kernel_rfl) Try.func4 (by kernel_rfl)
    (of_decide_eq_true (by kernel_rfl)) (by unfold Func.isWrapper; first | (rw [if_pos (by decide +kernel)]; kernel_rfl) | (rw [if_neg (by decide +kernel)]; exact ⟨rfl, rfl⟩))
    (fun os started H enc _ => fnExactVerdict_lifted os started H enc)

#print axioms fnExactVerdict_holds
end Go.Proofs.Ytdeoffkhnkdhmaa
