/- Faults, and reports that are so. -/
import Derived.Test.YteaoohmablanhaaGreatQ6
set_option linter.all false
namespace Go.Sh
open Go.Fx
theorem faults_v (t : Town) (h : SmTown t) : ∃ v, S_sFaultOf t = some v ∧ S_iFaultOf t = some v := by
  have h4 := h.2.2.2.2
  have e1 : S_sAreLightsSafe t = some (isSafe t.paths (lightsNow t)) := by unfold S_sAreLightsSafe; simp [sLightsNow_v t h, sIsSafeLights_v _ _ h.1]
  have e2 : S_iAreLightsSafe t = some (isSafe t.paths (lightsNow t)) := by unfold S_iAreLightsSafe; simp [iLightsNow_v t h, iIsSafeLights_v _ _ h.1]
  unfold S_sFaultOf S_iFaultOf
  simp only [rws_path, rws_i, rws_want, rws_lamp, rws_note_ss, eta_Control, eta_Town, sIsTown_v t h, iIsTown_v t h, e1, e2, sIsRecordTrue_v t h, iIsRecordTrue_v t h, sAreWaitsBounded_v t h, iAreWaitsBounded_v t h, bnd_some]
  cases isTown t
  · exact ⟨_, rfl, rfl⟩
  cases isSafe t.paths (lightsNow t)
  · exact ⟨_, rfl, rfl⟩
  cases recordTrue t
  · exact ⟨_, rfl, rfl⟩
  cases waitsBounded t
  · exact ⟨_, rfl, rfl⟩
  · exact ⟨_, rfl, rfl⟩
theorem lFnExactFaultOf_v (a : Town) (h : OkTown a) : S_lFnExactFaultOf a = some true := by
  obtain ⟨r, e, d⟩ := lszTown_v a h 1048576 (by decide) (by decide)
  unfold S_lFnExactFaultOf
  simp only [rws_note_ss, eta_Control, eta_Town]
  rcases d with d | ⟨_, _, hs⟩
  · simp [e, d]
  · obtain ⟨v, e1, e2⟩ := faults_v a hs
    simp [e, show ¬ r < 0 by omega, ltoTown_v a hs, e1, e2, leqTown_v a a hs, cnd_if]
theorem isReport_v (t : Town) (p : Report) (h : SmTown t) : ∃ v, S_sIsReport t p = some v ∧ S_iIsReport t p = some v := by
  unfold S_sIsReport S_iIsReport
  simp only [rws_path, rws_i, rws_want, rws_lamp, rws_note_ss, eta_Control, eta_Town, sReportOf_v t _ _ h, iReportOf_v t _ _ h, bnd_some]
  cases (report t p.path p.second).2 with
  | false => exact ⟨_, rfl, rfl⟩
  | true => exact ⟨_, rfl, rfl⟩
theorem lFnExactIsReport_v (x : Town × Report) (h : OkTown x.1 ∧ OkReport x.2) : S_lFnExactIsReport x.1 x.2 = some true := by
  obtain ⟨a, p⟩ := x
  obtain ⟨r, e, d⟩ := lszTown_v a h.1 1048576 (by decide) (by decide)
  unfold S_lFnExactIsReport
  simp only [rws_note_ss, eta_Control, eta_Town]
  rcases d with d | ⟨_, _, hs⟩
  · simp [e, d]
  · obtain ⟨v, e1, e2⟩ := isReport_v a p hs
    simp [e, show ¬ r < 0 by omega, ltoTown_v a hs, ltoReport_v, e1, e2, leqTown_v a a hs, cnd_if]
end Go.Sh
