/- For every list of entries and every two ints, FnExactOpenShare of package laws returns true. No condition. -/
import Derived.Test.YtdeoffkhnkdhmaaP4
import Derived.Test.YtdeoffkhnkdhmaaEn1
import Derived.ProofKit
set_option linter.all false
namespace Go.Proofs.Ytdeoffkhnkdhmaa
open Go.Fx Go.Sh Go.ChangeShapes Go.WideShapes Go.ChangeAt Go.RowKit
theorem own_knob : ownKnob Try.prog.godebug = none := by kernel_rfl
theorem laid_out : laidOutB Try.prog = true := by kernel_rfl
theorem under_bool : Try.prog.underlying 4 = some .bool := by kernel_rfl
set_option maxRecDepth 100000
theorem len_FnExactOpenShare {H : Type} : ∀ ds : List (DataW H), ds.length = Try.f14.params.toList.length → Rows.fnExactOpenShareSpec.fn H ds = { results := [.lit (.bool true)], args := ds } := by
  intro ds h
  cases ds with
  | nil => cases h
  | cons d0 ds =>
    cases ds with
    | nil => cases h
    | cons d1 ds =>
      cases ds with
      | nil => cases h
      | cons d2 ds =>
        cases ds with
        | nil => rfl
        | cons _ _ => cases h
theorem ev_FnExactOpenShare : ∀ av, ArgsVal [.sl 3 (shNote), .int .i64, .int .i64] av → ∃ x r, E_lFnExactOpenShare.S x = some r ∧ E_lFnExactOpenShare.ps.enc x = (av, []) ∧ E_lFnExactOpenShare.rs.enc r = (Bl true, []) := by
  intro av ha
  obtain ⟨x, e, h⟩ := (readsA_co (readA_one ⟨rfl, fun _ _ h => by cases h⟩ (reads_sl 3 reads_note)) (readsA_co (readA_one ⟨rfl, fun _ _ h => by cases h⟩ reads_int) (readsA_one (readA_one ⟨rfl, fun _ _ h => by cases h⟩ reads_int)))) av ha
  exact ⟨x, true, lFnExactOpenShare_v x.1 x.2.1 x.2.2 h.1, by rw [e]; rfl, rfl⟩
theorem fnExactOpenShare_lifted (os : Os) (started : os.Started) (H : Type) (enc : TypeId × Value → H) :
    ReturnsInHanded {} Try.checked os 14 .any (Rows.fnExactOpenShareSpec.pre6 enc Try.prog Try.f14 Rows.fnExactOpenShareRow.domain false) (Rows.fnExactOpenShareSpec.post enc Try.prog Try.f14 false true false false) := by
  refine returnsInHanded_of_change (C := Try.checked) own_knob started (by kernel_rfl) Try.func14
    (ChangeSpec.witness6 (enc := enc) (C := Try.checked) false ⟨#[], #[.slice none 0 0, .int .i64 0, .int .i64 0], []⟩ 400 (by kernel_rfl) (by kernel_rfl) (by kernel_rfl) (by kernel_rfl)) ?_
  intro W base args ds gs before hval hW _ _
  refine law_true (shs := [.sl 3 (shNote), .int .i64, .int .i64]) (tb := 4) ok_lFnExactOpenShare laid_out ?_ (by kernel_rfl) under_bool rfl len_FnExactOpenShare (by kernel_rfl) ev_FnExactOpenShare hval hW
  exact fun t ht => of_decide_eq_true (List.all_eq_true.1 (show (Try.f14.params.toList.all fun t => decide (Try.prog.readableRec t = true ∧ t < Try.prog.types.size)) = true by kernel_rfl) t ht)

theorem fnExactOpenShare_holds : Rows.FnExactOpenShareSaid :=
  OpenClaim.holds_of_wide 14 Try.f14 rfl rfl rfl rfl rfl rfl rfl ⟨rfl, rfl, rfl, rfl, rfl⟩ rfl rfl rfl rfl rfl (by kernel_rfl) Try.func14 (by kernel_rfl)
    (of_decide_eq_true (by kernel_rfl)) (by unfold Func.isWrapper; first | (rw [if_pos (by decide +kernel)]; kernel_rfl) | (rw [if_neg (by decide +kernel)]; exact ⟨rfl, rfl⟩))
    (fun os started H enc _ => fnExactOpenShare_lifted os started H enc)

#print axioms fnExactOpenShare_holds
end Go.Proofs.Ytdeoffkhnkdhmaa
