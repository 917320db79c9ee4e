/- Sirens, ticks. -/
import Derived.Test.YtjgfhonfmjfabaaGreatI4
set_option linter.all false
namespace Go.Sh
open Go.Fx
def isRoad (l : List Path) (id : Int) : Bool := !decide (findPath l id < 0) && (pathAt l id).kind != 2
theorem iisRoadway_v (l : List Path) (id : Int) (hl : Sm l) : S_iisRoadway l id = some (isRoad l id) := by
  unfold S_iisRoadway isRoad
  simp only [rws_path, iFindPath_v _ _ hl, bnd_some, geti_path, cnd_if]
  by_cases hf : findPath l id < 0
  · simp [hf, show ¬ (findPath l id ≥ 0) by omega]
  · simp [hf, show (0 : Int) ≤ findPath l id by omega, getZ_find hf]
def canCut (l : List Path) (x : Control) : Bool := isControl l x && (x.next.isEmpty && decide (x.since ≥ if leastGreen l x.stage = 7 then 7 else 4))
theorem sCanCut_v (l : List Path) (x : Control) (h : Sm l) (hx : SmControl x) : S_sCanCut l x = some (canCut l x) := by
  unfold S_sCanCut canCut
  simp only [rws_path, rws_i, eta_Control, sLeastGreen_v l _ h hx.1, sIsControl_v l x h hx, bnd_some, len_i, len0]
  by_cases c : leastGreen l x.stage = 7
  · simp only [c, beq_self_eq_true, cnd_tt, if_true]
    cases isControl l x <;> cases x.next.isEmpty <;> simp
  · simp only [show (leastGreen l x.stage == 7) = false from beq_eq_false_iff_ne.2 c, cnd_ff, if_neg c]
    cases isControl l x <;> cases x.next.isEmpty <;> simp
theorem iCanCut_v (l : List Path) (x : Control) (h : Sm l) (hx : SmControl x) : S_iCanCut l x = some (canCut l x) := by
  unfold S_iCanCut canCut
  simp only [rws_path, rws_i, eta_Control, iLeastGreen_v l _ h hx.1, iIsControl_v l x h hx, bnd_some, len_i, len1]
  by_cases c : leastGreen l x.stage = 7
  · simp only [c, beq_self_eq_true, cnd_tt, if_true]
    cases isControl l x <;> cases x.next.isEmpty <;> simp
  · simp only [show (leastGreen l x.stage == 7) = false from beq_eq_false_iff_ne.2 c, cnd_ff, if_neg c]
    cases isControl l x <;> cases x.next.isEmpty <;> simp
theorem clearOf_pos (p : Path) : 0 ≤ clearOf p ∧ clearOf p ≤ 5 := by
  unfold clearOf
  split
  · split
    · omega
    · split <;> omega
  · omega
theorem most_le {n c : Int} (h : 0 ≤ n ∧ n ≤ 5) (h' : 0 ≤ c ∧ c ≤ 5) : 0 ≤ most n c ∧ most n c ≤ 5 := by unfold most; split <;> omega
theorem stepC_le (l : List Path) (x : Int) : ∀ (s : List Int) (n : Int), 0 ≤ n ∧ n ≤ 5 → 0 ≤ s.foldl (stepC l x) n ∧ s.foldl (stepC l x) n ≤ 5
  | [], n, h => h
  | y :: s, n, h => by
    rw [List.foldl_cons]
    refine stepC_le l x s _ ?_
    unfold stepC
    split
    · exact most_le h (clearOf_pos _)
    · exact h
theorem clear_fold (l : List Path) (b : List Int) : ∀ (s : List Int) (n : Int), 0 ≤ n ∧ n ≤ 5 → 0 ≤ s.foldl (fun n x => b.foldl (stepC l x) n) n ∧ s.foldl (fun n x => b.foldl (stepC l x) n) n ≤ 5
  | [], n, h => h
  | y :: s, n, h => by
    rw [List.foldl_cons]
    exact clear_fold l b s _ (stepC_le l y b n h)
theorem clear_le (l : List Path) (a b : List Int) : 0 ≤ clearBetween l a b ∧ clearBetween l a b ≤ 5 := by
  unfold clearBetween
  split
  · exact clear_fold l _ _ 0 (by omega)
  · omega
def cutFor (l : List Path) (x : Control) (p : Int) : Control × Bool :=
  if canCut l x && (isRoad l p && !has x.stage p) then
    (if clearBetween l x.stage [p] = 0 then (⟨[p], 0, [], 0⟩, true) else (⟨x.stage, x.since, [p], clearBetween l x.stage [p]⟩, true))
  else (x, false)
theorem sm_one (p : Int) : Sm [p] := by unfold Sm; simp
theorem sCutFor_v (l : List Path) (x : Control) (p : Int) (h : Sm l) (hx : SmControl x) : S_sCutFor l x p = some (cutFor l x p) := by
  unfold S_sCutFor cutFor isRoad
  simp only [rws_path, rws_i, eta_Control, sl14Copy_v x hx, sFindPath_v _ _ h, sCanCut_v l x h hx, bnd_some, sl6Has_v _ _ hx.1, geti_path, row_i, sClearBetween_v l _ _ h hx.1 (sm_one p)]
  cases canCut l x with
  | false => simp
  | true =>
    by_cases hf : findPath l p < 0
    · simp [hf]
    · simp only [hf, decide_false, cnd_ff, getZ_find hf, Bool.not_true, Bool.not_false, Bool.true_and]
      by_cases hk : (pathAt l p).kind = 2
      · simp [hk]
      · simp only [show ((pathAt l p).kind == 2) = false from beq_eq_false_iff_ne.2 hk, show ((pathAt l p).kind != 2) = true from bne_iff_ne.2 hk, cnd_ff, Bool.true_and]
        cases has x.stage p with
        | true => simp
        | false =>
          by_cases hc : clearBetween l x.stage [p] = 0
          · simp [hc]
          · simp [hc, show (clearBetween l x.stage [p] == 0) = false from beq_eq_false_iff_ne.2 hc]
theorem iCutFor_v (l : List Path) (x : Control) (p : Int) (h : Sm l) (hx : SmControl x) : S_iCutFor l x p = some (cutFor l x p) := by
  have hc0 := (clear_le l x.stage [p]).1
  unfold S_iCutFor cutFor
  simp only [rws_path, rws_i, eta_Control, icloneControl_v x hx, iisRoadway_v _ _ h, iCanCut_v l x h hx, bnd_some, slices_Contains_int_int_v _ _ hx.1, row_i, iClearBetween_v l _ _ h hx.1 (sm_one p)]
  cases canCut l x with
  | false => simp
  | true =>
    cases isRoad l p with
    | false => simp
    | true =>
        cases has x.stage p with
        | true => simp
        | false =>
          by_cases hc : clearBetween l x.stage [p] = 0
          · simp [hc]
          · simp [hc, show clearBetween l x.stage [p] > 0 by omega]
def tick (l : List Path) (x : Control) : Control :=
  if isControl l x = true then
    (if x.next.isEmpty = true then { x with since := if x.since < 1000000 then x.since + 1 else 1000000 } else if x.left > 1 then { x with left := x.left - 1 } else ⟨x.next, 0, [], 0⟩)
  else x
theorem control_left {l : List Path} {x : Control} (h : isControl l x = true) : (0 ≤ x.since ∧ x.since ≤ 1000000) ∧ (x.next.isEmpty = false → 1 ≤ x.left ∧ x.left ≤ 5) := by
  unfold isControl inR at h
  simp only [Bool.and_eq_true, decide_eq_true_eq] at h
  refine ⟨h.1.2, fun hn => ?_⟩
  have h2 := h.2
  rw [if_neg (by intro e; rw [e] at hn; cases hn)] at h2
  simp only [Bool.and_eq_true, decide_eq_true_eq] at h2
  have := (clear_le l x.stage x.next).2
  omega
theorem sTickControl_v (l : List Path) (x : Control) (h : Sm l) (hx : SmControl x) : S_sTickControl l x = some (tick l x) := by
  unfold S_sTickControl tick
  simp only [rws_path, rws_i, eta_Control, sl14Copy_v x hx, sIsControl_v l x h hx, bnd_some, len_i, len0, sMin_v]
  cases hc : isControl l x with
  | false => simp
  | true =>
    obtain ⟨h1, h2⟩ := control_left hc
    cases hn : x.next.isEmpty with
    | true =>
      rw [W_id (by omega) (by omega)]
      simp
      by_cases c : x.since < 1000000
      · rw [if_pos c]
        by_cases c2 : x.since + 1 < 1000000
        · rw [if_pos c2]
        · rw [if_neg c2]; omega
      · rw [if_neg c, if_neg (by omega)]
    | false =>
      obtain ⟨h3, h4⟩ := h2 hn
      rw [show W (x.left - 1) = x.left - 1 from W_id (by omega) (by omega)]
      by_cases c : x.left > 1
      · simp [c, show (x.left - 1 == 0) = false from beq_eq_false_iff_ne.2 (by omega)]
      · simp [c, show x.left = 1 by omega]
theorem iTickControl_v (l : List Path) (x : Control) (h : Sm l) (hx : SmControl x) : S_iTickControl l x = some (tick l x) := by
  unfold S_iTickControl tick
  simp only [rws_path, rws_i, eta_Control, icloneControl_v x hx, iIsControl_v l x h hx, bnd_some, len_i, len0, slices_Clone_int_int_v _ hx.2]
  cases hc : isControl l x with
  | false => simp
  | true =>
    obtain ⟨h1, h2⟩ := control_left hc
    cases hn : x.next.isEmpty with
    | true =>
      rw [W_id (by omega) (by omega)]
      simp
      by_cases c : x.since < 1000000
      · rw [if_pos c, if_neg (by omega)]
      · rw [if_neg c, if_pos (by omega)]
    | false =>
      obtain ⟨h3, h4⟩ := h2 hn
      rw [show W (x.left - 1) = x.left - 1 from W_id (by omega) (by omega)]
      by_cases c : x.left > 1 <;> simp [c]
theorem cutFor_sm {l : List Path} {x : Control} {p : Int} (hx : SmControl x) : SmControl (cutFor l x p).1 := by
  unfold cutFor
  split
  · split
    · exact ⟨sm_one p, by unfold Sm; simp⟩
    · exact ⟨hx.1, sm_one p⟩
  · exact hx
theorem tick_sm {l : List Path} {x : Control} (hx : SmControl x) : SmControl (tick l x) := by
  unfold tick
  split
  · split
    · exact hx
    · split
      · exact hx
      · exact ⟨hx.2, by unfold Sm; simp⟩
  · exact hx
def siren (l : List Path) (x : Control) (p : Int) : Control := if (cutFor l x p).2 = true then (cutFor l x p).1 else tick l x
theorem sStepSiren_v (l : List Path) (x : Control) (p : Int) (h : Sm l) (hx : SmControl x) : S_sStepSiren l x p = some (siren l x p) := by
  unfold S_sStepSiren siren
  simp only [rws_path, rws_i, eta_Control, sCutFor_v l x p h hx, sTickControl_v l x h hx, bnd_some]
  cases (cutFor l x p).2 <;> simp [eta_Control]
theorem iStepSiren_v (l : List Path) (x : Control) (p : Int) (h : Sm l) (hx : SmControl x) : S_iStepSiren l x p = some (siren l x p) := by
  unfold S_iStepSiren siren
  simp only [rws_path, rws_i, eta_Control, iCutFor_v l x p h hx, iTickControl_v l x h hx, bnd_some]
  cases (cutFor l x p).2 <;> simp [eta_Control]
theorem siren_sm {l : List Path} {x : Control} {p : Int} (hx : SmControl x) : SmControl (siren l x p) := by
  unfold siren
  split
  · exact cutFor_sm hx
  · exact tick_sm hx
/-! what stays valid -/
theorem together_nil {l : List Path} : together l [] = arePaths l := by unfold together; rfl
theorem together_are {l : List Path} {a : List Int} (h : together l a = true) : arePaths l = true := by
  unfold together at h
  rw [Bool.and_eq_true] at h
  exact h.2
theorem together_one {l : List Path} {p : Int} (h : arePaths l = true) (hp : ¬ findPath l p < 0) : together l [p] = true := by
  unfold together
  simp [goT, hp, prevOk, h]
theorem control_parts {l : List Path} {x : Control} (h : isControl l x = true) : x.stage ≠ [] ∧ together l x.stage = true ∧ together l x.next = true := by
  unfold isControl at h
  simp only [Bool.and_eq_true] at h
  refine ⟨fun e => ?_, h.1.1.1.2, h.1.1.2⟩
  have := h.1.1.1.1
  rw [e] at this
  cases this
theorem tick_control {l : List Path} {x : Control} (h : isControl l x = true) : isControl l (tick l x) = true := by
  obtain ⟨a1, a2, a3⟩ := control_parts h
  obtain ⟨h1, h2⟩ := control_left h
  have ha := together_are a2
  unfold tick
  rw [if_pos h]
  unfold isControl inR at h ⊢
  simp only [Bool.and_eq_true, decide_eq_true_eq] at h
  cases hn : x.next with
  | nil =>
    rw [hn] at h
    simp at h
    simp [a1, a2, together_nil, ha, h]
    split <;> omega
  | cons b r =>
    rw [hn] at h a3
    have h3 := h2 (by rw [hn]; rfl)
    have h4 := h.2
    simp at h4
    by_cases c : x.left > 1
    · simp [c, a1, a2, a3, h1]
      omega
    · simp [c, a3, together_nil, ha]
theorem cutFor_control {l : List Path} {x : Control} {p : Int} (h : isControl l x = true) : isControl l (cutFor l x p).1 = true := by
  unfold cutFor
  split
  · rename_i hc
    simp only [Bool.and_eq_true, isRoad] at hc
    have hp : ¬ findPath l p < 0 := by simpa using hc.2.1.1
    obtain ⟨a1, a2, a3⟩ := control_parts h
    obtain ⟨h1, h2⟩ := control_left h
    have ha := together_are a2
    have h0 := clear_le l x.stage [p]
    split
    · simp [isControl, together_one ha hp, together_nil, ha, inR]
    · simp [isControl, together_one ha hp, a1, a2, inR, h1]
      omega
  · exact h
theorem siren_control {l : List Path} {x : Control} {p : Int} (h : isControl l x = true) : isControl l (siren l x p) = true := by
  unfold siren
  split
  · exact cutFor_control h
  · exact tick_control h
end Go.Sh
