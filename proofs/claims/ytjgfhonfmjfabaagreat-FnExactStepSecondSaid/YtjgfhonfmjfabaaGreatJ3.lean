/- The next stage, and when it must come. -/
import Derived.Test.YtjgfhonfmjfabaaGreatJ2
set_option linter.all false
namespace Go.Sh
open Go.Fx
def nextStage (l : List Path) (x : Control) (w : List Want) : List Int :=
  if longest w x.stage = 0 then [] else if isControl l x && areWants l w then addToStage l [longest w x.stage] else []
theorem sm_nil : Sm ([] : List Int) := by unfold Sm; simp
theorem nextStage_sm (l : List Path) (x : Control) (w : List Want) : Sm (nextStage l x w) := by
  unfold nextStage
  split
  · exact sm_nil
  · split
    · exact addToStage_sm (sm_one _)
    · exact sm_nil
theorem sNextStage_v (l : List Path) (x : Control) (w : List Want) (h : Sm l) (hx : SmControl x) (hw : Sm w) : S_sNextStage l x w = some (nextStage l x w) := by
  unfold S_sNextStage nextStage
  simp only [rws_path, rws_i, rws_want, eta_Control, sLongestWant_v w _ hw hx.1, sIsControl_v l x h hx, sAreWants_v l w h hw, sAddToStage_v l _ h (sm_one _), bnd_some]
  by_cases c : longest w x.stage = 0
  · simp [c]
  · rw [show (longest w x.stage == 0) = false from beq_eq_false_iff_ne.2 c, cnd_ff, if_neg c]
    cases isControl l x <;> cases areWants l w <;> simp [sAddToStage_v l _ h (sm_one _)]
theorem iNextStage_v (l : List Path) (x : Control) (w : List Want) (h : Sm l) (hx : SmControl x) (hw : Sm w) : S_iNextStage l x w = some (nextStage l x w) := by
  unfold S_iNextStage nextStage
  simp only [rws_path, rws_i, rws_want, eta_Control, iLongestWant_v w _ hw hx.1, iIsControl_v l x h hx, iAreWants_v l w h hw, iAddToStage_v l _ h (sm_one _), bnd_some]
  by_cases c : longest w x.stage = 0
  · simp [c]
  · rw [show (longest w x.stage == 0) = false from beq_eq_false_iff_ne.2 c, cnd_ff, if_neg c]
    cases isControl l x <;> cases areWants l w <;> simp [iAddToStage_v l _ h (sm_one _)]
def mustChange (l : List Path) (x : Control) (w : List Want) : Bool :=
  canEnd l x && (!(nextStage l x w).isEmpty && (decide (x.since ≥ 60) || !w.any fun y => has x.stage y.path))
theorem gt0 {α : Type} (l : List α) : decide (((l.length : Nat) : Int) > 0) = !l.isEmpty := by
  cases l with
  | nil => rfl
  | cons x l => simp
theorem sMustChange_v (l : List Path) (x : Control) (w : List Want) (h : Sm l) (hx : SmControl x) (hw : Sm w) : S_sMustChange l x w = some (mustChange l x w) := by
  have hw' := hw
  unfold Sm at hw'
  unfold S_sMustChange mustChange
  simp only [rws_path, rws_i, rws_want, eta_Control, len_want, geti_want]
  refine (iter_list0 w (by omega) (fun k (b : Bool) => ((l, w, b, (k : Int)), x)) false (fun r _ b => some (canEnd l x && (!(nextStage l x w).isEmpty && (decide (x.since ≥ 60) || !(b || r.any fun y => has x.stage y.path))))) rfl ?_ ?_).trans (by simp)
  · intro rec b
    rw [show decide (((w.length : Nat) : Int) < ((w.length : Nat) : Int)) = false from decide_eq_false (by omega), cnd_ff]
    simp only [sCanEnd_v l x h hx, bnd_some, sNextStage_v l x w h hx hw, len_i, gt0]
    cases canEnd l x <;> cases (nextStage l x w).isEmpty <;> cases b <;> simp
  · intro rec k y b hy hk hr
    simp only [Int.natCast_succ] at hr
    simp only [show decide (((k : Nat) : Int) < ((w.length : Nat) : Int)) = true from decide_eq_true (by omega), cnd_tt, W_n1 (show k ≤ 9223372036854775806 by omega), getZ_at hy, sl6Has_v _ _ hx.1, bnd_some, List.any_cons]
    cases b with
    | true => simp [hr true]
    | false => simp [hr (has x.stage y.path)]
theorem iMust1_v (y : Want) (x : Control) (hx : SmControl x) : S_iMustChange_1 y x = some (has x.stage y.path) := by
  unfold S_iMustChange_1
  simp [slices_Contains_int_int_v _ _ hx.1]
theorem any_want (w : List Want) (x : Control) (h : Sm w) (hx : SmControl x) : S_slices_ContainsFunc_loop_example_g03006_impl_Want_loop_example_g03006_impl_Want w x = some (w.any fun y => has x.stage y.path) := by
  unfold Sm at h
  unfold S_slices_ContainsFunc_loop_example_g03006_impl_Want_loop_example_g03006_impl_Want S_slices_IndexFunc_loop_example_g03006_impl_Want_loop_example_g03006_impl_Want
  simp only [rws_want, rws_i, eta_Control, len_want, geti_want]
  generalize hI : iter (_ : _ → _ → Option Int) NN _ = J0
  have hI' : J0 = match w.findIdx? (fun y => has x.stage y.path) with | some i => some (i : Int) | none => some (-1) := by
    rw [← hI]
    refine find_loop w (fun y => has x.stage y.path) (by omega) (fun k => (w, x, (w.length : Int), (k : Int))) (fun i => some (i : Int)) (some (-1)) rfl ?_ ?_
    · intro rec; simp
    · intro rec k a ha hk
      simp [hk, getZ_at ha, W_n1 (show k ≤ 9223372036854775806 by omega), iMust1_v a x hx, eta_Control, cnd_if]
  rw [hI', ← findIdx_some']
  cases w.findIdx? (fun y => has x.stage y.path) <;> simp
theorem iMustChange_v (l : List Path) (x : Control) (w : List Want) (h : Sm l) (hx : SmControl x) (hw : Sm w) : S_iMustChange l x w = some (mustChange l x w) := by
  unfold S_iMustChange mustChange
  simp only [rws_path, rws_i, rws_want, eta_Control, iCanEnd_v l x h hx, bnd_some, iNextStage_v l x w h hx hw, len_i, len0, any_want w x hw hx]
  cases canEnd l x <;> cases (nextStage l x w).isEmpty <;> cases decide (x.since ≥ 60) <;> simp
def askStage (l : List Path) (x : Control) (st : List Int) : Control × Bool :=
  if canEnd l x && (!st.isEmpty && (together l st && !decide (st = x.stage))) then
    (if clearBetween l x.stage st = 0 then ⟨st, 0, [], 0⟩ else ⟨x.stage, x.since, st, clearBetween l x.stage st⟩, true) else (x, false)
theorem sAskStage_v (l : List Path) (x : Control) (st : List Int) (h : Sm l) (hx : SmControl x) (hs : Sm st) : S_sAskStage l x st = some (askStage l x st) := by
  have hs' := hs
  unfold Sm at hs'
  unfold S_sAskStage askStage
  simp only [rws_path, rws_i, eta_Control, sl14Copy_v x hx, sCanEnd_v l x h hx, bnd_some, len_i, len0, sIsTogether_v l st h hs, sEqualInts_v st x.stage hs, sClearBetween_v l _ _ h hx.1 hs, clrs_i]
  cases canEnd l x with
  | false => simp [eta_Control]
  | true =>
  cases st.isEmpty with
  | true => simp [eta_Control]
  | false =>
  cases together l st with
  | false => simp [eta_Control]
  | true =>
  cases decide (st = x.stage) with
  | true => simp [eta_Control]
  | false =>
    simp only [Bool.not_true, Bool.not_false, cnd_ff, cnd_tt]
    rw [ifA_pos (by simp; omega)]
    by_cases c : clearBetween l x.stage st = 0
    · simp [c]
    · simp [c, show (clearBetween l x.stage st == 0) = false from beq_eq_false_iff_ne.2 c]
      rw [ifA_pos (by omega)]
theorem iAskStage_v (l : List Path) (x : Control) (st : List Int) (h : Sm l) (hx : SmControl x) (hs : Sm st) : S_iAskStage l x st = some (askStage l x st) := by
  have h0 := (clear_le l x.stage st).1
  unfold S_iAskStage askStage
  simp only [rws_path, rws_i, eta_Control, icloneControl_v x hx, iCanEnd_v l x h hx, bnd_some, len_i, len0, iIsTogether_v l st h hs, slices_Equal_int_int_v st x.stage hs, iClearBetween_v l _ _ h hx.1 hs, slices_Clone_int_int_v st hs]
  cases canEnd l x with
  | false => simp [eta_Control]
  | true =>
  cases st.isEmpty with
  | true => simp [eta_Control]
  | false =>
  cases together l st with
  | false => simp [eta_Control]
  | true =>
  cases decide (st = x.stage) with
  | true => simp [eta_Control]
  | false =>
    by_cases c : clearBetween l x.stage st = 0
    · simp [c]
    · simp [c, show clearBetween l x.stage st > 0 by omega]
theorem canEnd_control {l : List Path} {x : Control} (h : canEnd l x = true) : isControl l x = true := by
  unfold canEnd at h
  rw [Bool.and_eq_true] at h
  exact h.1
theorem askStage_sm {l : List Path} {x : Control} {st : List Int} (hx : SmControl x) (hs : Sm st) : SmControl (askStage l x st).1 := by
  unfold askStage
  split
  · simp only
    split
    · exact ⟨hs, sm_nil⟩
    · exact ⟨hx.1, hs⟩
  · exact hx
theorem askStage_control {l : List Path} {x : Control} {st : List Int} (h : isControl l x = true) : isControl l (askStage l x st).1 = true := by
  unfold askStage
  split
  · rename_i hc
    simp only [Bool.and_eq_true, Bool.not_eq_true'] at hc
    obtain ⟨_, hne, ht, _⟩ := hc
    obtain ⟨a1, a2, a3⟩ := control_parts h
    obtain ⟨h1, h2⟩ := control_left h
    have ha := together_are a2
    have h0 := clear_le l x.stage st
    have hne' : st ≠ [] := fun e => by rw [e] at hne; cases hne
    simp only
    split
    · simp [isControl, ht, hne, together_nil, ha, inR, hne']
    · simp [isControl, ht, a1, a2, inR, h1, hne']
      omega
  · exact h
def asked (l : List Path) (x : Control) (w : List Want) : Control := if mustChange l x w = true then (askStage l x (nextStage l x w)).1 else tick l x
theorem asked_control {l : List Path} {x : Control} {w : List Want} (h : isControl l x = true) : isControl l (asked l x w) = true := by
  unfold asked
  split
  · exact askStage_control h
  · exact tick_control h
theorem asked_sm {l : List Path} {x : Control} {w : List Want} (hx : SmControl x) : SmControl (asked l x w) := by
  unfold asked
  split
  · exact askStage_sm hx (nextStage_sm l x w)
  · exact tick_sm hx
theorem iasked_v (l : List Path) (x : Control) (w : List Want) (h : Sm l) (hx : SmControl x) (hw : Sm w) : S_iasked l x w = some (asked l x w) := by
  unfold S_iasked asked
  simp only [rws_path, rws_i, rws_want, eta_Control, iMustChange_v l x w h hx hw, bnd_some, iNextStage_v l x w h hx hw, iAskStage_v l x _ h hx (nextStage_sm l x w), iTickControl_v l x h hx]
  cases mustChange l x w <;> simp
end Go.Sh
