/- The first laws, as plain facts. -/
import Derived.Test.YtdeoffkhnkdhmaaP2
set_option linter.all false
namespace Go.Sh
open Go.Fx

theorem lFnExactVerdict_v (a b : Report) : S_lFnExactVerdict a b = some true := by
  obtain ⟨v, hs, hi⟩ := verdict_v a b
  unfold S_lFnExactVerdict S_ltoReport
  simp [hs, hi]
theorem lFnExactLongestWait_v (a : List Want) (h : a.length ≤ maxLen ∧ ∀ y ∈ a, OkWant y) : S_lFnExactLongestWait a = some true := by
  obtain ⟨r, e, d⟩ := lszWantS_v a h 1048576 (by decide) (by decide)
  unfold S_lFnExactLongestWait
  simp only [rws_want, e, bnd_some]
  rcases d with d | ⟨_, _, hs⟩
  · simp [d]
  · simp [ltoWantS_v a hs, sLongestWait_v a hs, iLongestWait_v a hs, leqWantS_v a a hs, cnd_if]
theorem lFnExactCountBroken_v (a : List Lamp) (h : a.length ≤ maxLen ∧ ∀ y ∈ a, OkLamp y) : S_lFnExactCountBroken a = some true := by
  obtain ⟨r, e, d⟩ := lszLampS_v a h 1048576 (by decide) (by decide)
  unfold S_lFnExactCountBroken
  simp only [rws_lamp, e, bnd_some]
  rcases d with d | ⟨_, _, hs⟩
  · simp [d]
  · simp [ltoLampS_v a hs, sCountBroken_v a hs, iCountBroken_v a hs, leqLampS_v a a hs, cnd_if]
theorem lFnExactCountEvents_v (a : List Evt) (aK : Int) (h : a.length ≤ maxLen ∧ ∀ y ∈ a, OkEvt y) : S_lFnExactCountEvents a aK = some true := by
  obtain ⟨r, e, d⟩ := lszEventS_v a h 1048576 (by decide) (by decide)
  unfold S_lFnExactCountEvents
  simp only [rws_evt, e, bnd_some]
  rcases d with d | ⟨_, _, hs⟩
  · simp [d]
  · simp [ltoEventS_v a hs, sCountEvents_v a aK hs, iCountEvents_v a aK hs, leqEventS_v a a hs, cnd_if]
theorem lFnExactCountKind_v (a : List Path) (aK : Int) (h : a.length ≤ maxLen ∧ ∀ y ∈ a, OkPath y) : S_lFnExactCountKind a aK = some true := by
  obtain ⟨r, e, d⟩ := lszPathS_v a h 1048576 (by decide) (by decide)
  unfold S_lFnExactCountKind
  simp only [rws_path, e, bnd_some]
  rcases d with d | ⟨_, _, hs⟩
  · simp [d]
  · simp [ltoPathS_v a hs, sCountKind_v a aK hs, iCountKind_v a aK hs, leqPathS_v a a hs, cnd_if]
theorem lFnExactCountLights_v (a : List Report) (aK : Int) (h : a.length ≤ maxLen ∧ ∀ y ∈ a, OkReport y) : S_lFnExactCountLights a aK = some true := by
  obtain ⟨r, e, d⟩ := lszReportS_v a h 1048576 (by decide) (by decide)
  unfold S_lFnExactCountLights
  simp only [rws_report, e, bnd_some]
  rcases d with d | ⟨_, _, hs⟩
  · simp [d]
  · simp [ltoReportS_v a hs, sCountLights_v a aK hs, iCountLights_v a aK hs, leqReportS_v a a hs, cnd_if]
theorem lFnExactBusiestArm_v (a : List Path) (h : a.length ≤ maxLen ∧ ∀ y ∈ a, OkPath y) : S_lFnExactBusiestArm a = some true := by
  obtain ⟨r, e, d⟩ := lszPathS_v a h 1048576 (by decide) (by decide)
  unfold S_lFnExactBusiestArm
  simp only [rws_path, e, bnd_some]
  rcases d with d | ⟨_, _, hs⟩
  · simp [d]
  · simp [ltoPathS_v a hs, sBusiestArm_v a hs, iBusiestArm_v a hs, leqPathS_v a a hs, cnd_if]
theorem lFnExactWaitBound_v (a : List Path) (h : a.length ≤ maxLen ∧ ∀ y ∈ a, OkPath y) : S_lFnExactWaitBound a = some true := by
  obtain ⟨r, e, d⟩ := lszPathS_v a h 1048576 (by decide) (by decide)
  unfold S_lFnExactWaitBound
  simp only [rws_path, e, bnd_some]
  rcases d with d | ⟨_, _, hs⟩
  · simp [d]
  · simp [ltoPathS_v a hs, sWaitBound_v a hs, iWaitBound_v a hs, leqPathS_v a a hs, cnd_if]
end Go.Sh
