/- For every int, the function FnExactEventName of package laws returns true: the program's EventName returns what the reference's returns. No condition. -/
import Derived.Test.YtdeoffkhnkdhmaaFxSB
import Derived.Test.YtdeoffkhnkdhmaaRows
import Derived.ProofKit
namespace Go.Proofs.Ytdeoffkhnkdhmaa
open Go.Fx Go.ChangeShapes Go.WideShapes Go.ChangeAt Go.RowKit

theorem Try.own : ownKnob Try.prog.godebug = none := by kernel_rfl
theorem Try.laidOut : laidOutB Try.prog = true := by kernel_rfl

theorem C3_ok : CallOk Try.prog 0 (fun _ => none) C3 := add_ok C2_ok (call_of C2_ok Try.func3 (by kernel_rfl) fun args res h => by
  unfold M3 at h
  split at h
  · cases h
    rw [show Try.f3.ntmps = 12 from Try.ntmps3, law3_all]
  · cases h)

theorem C3_3 (n : Int) : C3 3 [I n] [] = some (Bl true, []) := rfl
theorem ev3 (xs : List AV) (ha : ArgsVal [.int .i64] xs) : C3 3 xs [] = some (Bl true, []) := by
  cases xs with
  | nil => exact ha.elim
  | cons a xs =>
    cases xs with
    | cons _ _ => exact ha.2.elim
    | nil =>
      obtain ⟨⟨cs, e, h⟩, _⟩ := ha
      simp only [ValS] at h
      obtain ⟨n, h1, _⟩ := h
      subst h1
      rw [e]
      exact C3_3 n

set_option maxRecDepth 100000 in
theorem eventName_lifted (os : Os) (started : os.Started) (H : Type) (enc : TypeId × Value → H) :
    ReturnsInHanded {} Try.checked os 3 .any (Rows.fnExactEventNameSpec.pre6 enc Try.prog Try.f3 Rows.fnExactEventNameRow.domain false) (Rows.fnExactEventNameSpec.post enc Try.prog Try.f3 false true false false) := by
  refine returnsInHanded_of_change (C := Try.checked) Try.own started (by kernel_rfl) Try.func3
    (ChangeSpec.witness6 (enc := enc) (C := Try.checked) false ⟨#[], #[.int .i64 0], []⟩ 8 (by kernel_rfl) (by kernel_rfl) (by kernel_rfl) (by kernel_rfl)) ?_
  intro W base args ds gs before hval hW _ _
  refine law_true (shs := [.int .i64]) (tb := 4) C3_ok Try.laidOut ?_ (by kernel_rfl) Try.underlying4 rfl ?_ (by kernel_rfl) ?_ hval hW
  · exact fun t ht => of_decide_eq_true (List.all_eq_true.1 (show (Try.f3.params.toList.all fun t => decide (Try.prog.readableRec t = true ∧ t < Try.prog.types.size)) = true by kernel_rfl) t ht)
  · intro ds h
    cases ds with
    | nil => cases h
    | cons d ds =>
      cases ds with
      | nil => rfl
      | cons _ _ => cases h
  · exact ev3

theorem eventName_holds : Rows.FnExactEventNameSaid :=
  OpenClaim.holds_of_wide 3 Try.f3 rfl rfl rfl rfl rfl rfl rfl ⟨rfl, rfl, rfl, rfl, rfl⟩ rfl rfl rfl rfl rfl (by kernel_rfl) Try.func3 (by kernel_rfl)
    (of_decide_eq_true (by kernel_rfl)) (by unfold Func.isWrapper; first | (rw [if_pos (by decide +kernel)]; kernel_rfl) | (rw [if_neg (by decide +kernel)]; exact ⟨rfl, rfl⟩))
    (fun os started H enc _ => eventName_lifted os started H enc)

#print axioms eventName_holds
end Go.Proofs.Ytdeoffkhnkdhmaa
