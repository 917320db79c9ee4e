/- Waits within bounds. -/
import Derived.Test.YtmcfebdgbcaimaaQ3
set_option linter.all false
namespace Go.Sh
open Go.Fx
def waitsBounded (t : Town) : Bool := t.wants.all fun x => decide (x.wait ≤ waitBound t.paths)
theorem sAreWaitsBounded_v (t : Town) (h : SmTown t) : S_sAreWaitsBounded t = some (waitsBounded t) := by
  obtain ⟨h0, h1, h2, h3, h4⟩ := h
  unfold Sm at h2
  unfold S_sAreWaitsBounded waitsBounded
  simp
  refine (all_loop t.wants (fun x => decide (x.wait ≤ waitBound t.paths)) (by omega) (fun k => ((k : Int), t)) (some true) (some false) rfl ?_ ?_).trans (by cases t.wants.all _ <;> rfl)
  · intro rec
    simp
  · intro rec k x hx hk
    simp [hk, getZ_at hx, sWaitBound_v t.paths h0, W_n1 (show k ≤ 9223372036854775806 by omega), cnd_if]
    by_cases c : waitBound t.paths < x.wait
    · simp [c, show ¬ x.wait ≤ waitBound t.paths by omega]
    · simp [c, show x.wait ≤ waitBound t.paths by omega]
theorem iAreWaitsBounded_v (t : Town) (h : SmTown t) : S_iAreWaitsBounded t = some (waitsBounded t) := by
  obtain ⟨h0, h1, h2, h3, h4⟩ := h
  unfold Sm at h2
  unfold S_iAreWaitsBounded waitsBounded
  simp
  refine (all_loop t.wants (fun x => decide (x.wait ≤ waitBound t.paths)) (by omega) (fun k => ((t.wants, (t.wants.length : Int), (k : Int)), t)) (some true) (some false) rfl ?_ ?_).trans (by cases t.wants.all _ <;> rfl)
  · intro rec
    simp
  · intro rec k x hx hk
    simp [hk, getZ_at hx, iWaitBound_v t.paths h0, W_n1 (show k ≤ 9223372036854775806 by omega), cnd_if]
    by_cases c : waitBound t.paths < x.wait
    · simp [c, show ¬ x.wait ≤ waitBound t.paths by omega]
    · simp [c, show x.wait ≤ waitBound t.paths by omega]
theorem lFnExactAreWaitsBounded_v (a : Town) (h : OkTown a) : S_lFnExactAreWaitsBounded a = some true := by
  obtain ⟨r, e, d⟩ := lszTown_v a h 1048576 (by decide) (by decide)
  unfold S_lFnExactAreWaitsBounded
  simp only [rws_note_ss, eta_Control, eta_Town]
  rcases d with d | ⟨_, _, hs⟩
  · simp [e, d]
  · simp [e, show ¬ r < 0 by omega, ltoTown_v a hs, sAreWaitsBounded_v a hs, iAreWaitsBounded_v a hs, leqTown_v a a hs, cnd_if]
end Go.Sh
