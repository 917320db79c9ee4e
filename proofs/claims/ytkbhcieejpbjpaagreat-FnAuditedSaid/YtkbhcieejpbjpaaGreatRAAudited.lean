/- What is at fault with a town is told as it is, a town that is drawn and played is safe, and waits have a bound. No condition. -/
import Derived.Test.YtkbhcieejpbjpaaGreatY1
import Derived.Test.YtkbhcieejpbjpaaGreatEnA
import Derived.Test.YtkbhcieejpbjpaaGreatClAAudited
import Derived.ProofKit
set_option linter.all false
namespace Go.Proofs.YtkbhcieejpbjpaaGreat
open Go.Fx Go.Sh Go.ChangeShapes Go.WideShapes Go.ChangeAt Go.RowKit
theorem own_knob : ownKnob Tryz.prog.godebug = none := by kernel_rfl
theorem laid_out : laidOutB Tryz.prog = true := kc1
theorem under_bool : Tryz.prog.underlying 4 = some .bool := by kernel_rfl
set_option maxRecDepth 100000
theorem len_FnAudited {H : Type} : ∀ ds : List (DataW H), ds.length = Tryz.f5.params.toList.length → Rows.fnAuditedSpec.fn H ds = { results := [.lit (.bool true)], args := ds } := by
  intro ds h
  cases ds with
  | nil => cases h
  | cons d0 ds =>
    cases ds with
    | nil => rfl
    | cons _ _ => cases h
theorem ev_FnAudited : ∀ av, ArgsVal [.sl 1 (.int .u8)] av → ∃ x r, E_lFnAudited.S x = some r ∧ E_lFnAudited.ps.enc x = (av, []) ∧ E_lFnAudited.rs.enc r = (Bl true, []) := by
  intro av ha
  obtain ⟨x, e, h⟩ := (readsA_one (readA_one ⟨rfl, fun _ _ h => by cases h⟩ (reads_sl 1 reads_u8))) av ha
  exact ⟨x, true, lFnAudited_v x h, by rw [e]; rfl, rfl⟩
theorem fnAudited_lifted (os : Os) (started : os.Started) (H : Type) (enc : TypeId × Value → H) :
    ReturnsInHanded {} Tryz.checked os 5 .any (Rows.fnAuditedSpec.pre6 enc Tryz.prog Tryz.f5 Rows.fnAuditedRow.domain false) (Rows.fnAuditedSpec.post enc Tryz.prog Tryz.f5 false true false false) := by
  refine returnsInHanded_of_change (C := Tryz.checked) own_knob started (by kernel_rfl) Tryz.func5
    (ChangeSpec.witness6 (enc := enc) (C := Tryz.checked) false ⟨#[], #[.slice none 0 0], []⟩ 400 (by kernel_rfl) (by kernel_rfl) (by kernel_rfl) (by kernel_rfl)) ?_
  intro W base args ds gs before hval hW _ _
  refine law_true (shs := [.sl 1 (.int .u8)]) (tb := 4) ok_lFnAudited laid_out ?_ (by kernel_rfl) under_bool rfl len_FnAudited (by kernel_rfl) ev_FnAudited hval hW
  exact fun t ht => of_decide_eq_true (List.all_eq_true.1 (show (Tryz.f5.params.toList.all fun t => decide (Tryz.prog.readableRec t = true ∧ t < Tryz.prog.types.size)) = true by kernel_rfl) t ht)
theorem fnAudited_holds : Rows.FnAuditedSaid :=
  OpenClaim.holds_of_wide 5 Tryz.f5 rfl rfl rfl rfl rfl rfl rfl ⟨rfl, rfl, rfl, rfl, rfl⟩ rfl rfl rfl rfl rfl (by kernel_rfl) Tryz.func5 closed
    (of_decide_eq_true (by kernel_rfl)) (by unfold Func.isWrapper; first | (rw [if_pos (by decide +kernel)]; kernel_rfl) | (rw [if_neg (by decide +kernel)]; exact ⟨rfl, rfl⟩))
    (fun os started H enc _ => fnAudited_lifted os started H enc)
#print axioms fnAudited_holds
end Go.Proofs.YtkbhcieejpbjpaaGreat
