/- CallAll, LightsNow. -/
import Derived.Test.YteaoohmablanhaaQ7
set_option linter.all false
namespace Go.Sh
open Go.Fx
/-- a list that grows one by one -/
theorem mapG_loop {α γ β V : Type} (l : List α) (f : α → γ) (hl : l.length ≤ 1099511627776) (st : Nat → List γ → V) (K : List γ → Option β) {F : (V → Option β) → V → Option β} {v : V} (hv : v = st 0 [])
    (h0 : ∀ rec acc, acc.length = l.length → F rec (st l.length acc) = K acc)
    (h1 : ∀ rec k x acc, l[k]? = some x → k < l.length → acc.length = k → F rec (st k acc) = rec (st (k + 1) (acc ++ [f x]))) : iter F NN v = K (l.map f) := by
  refine (iter_listJ l (by omega) st [] (fun k acc => acc.length = k) rfl (fun s _ acc => K (acc ++ s.map f)) hv ?_ ?_).trans (by simp)
  · intro rec acc h
    rw [h0 rec acc h]
    simp
  · intro rec k x acc h hx hk hr
    rw [h1 rec k x acc hx hk h, hr _ (by simp [h])]
    simp
theorem appe_evt (l : List Evt) (a b c : Int) (d : Bool) : l.map evtR.enc ++ [[I a, I b, I c, Bl d]] = (l ++ [(⟨a, b, c, d⟩ : Evt)]).map evtR.enc := (List.map_append (f := evtR.enc) (l₁ := l) (l₂ := [(⟨a, b, c, d⟩ : Evt)])).symm
def callAll (l : List Path) : List Evt := l.map fun p => ⟨1, p.id, 0, false⟩
theorem sCallAll_v (l : List Path) (h : Sm l) : S_sCallAll l = some (callAll l) := by
  unfold Sm at h
  unfold S_sCallAll callAll
  simp only [rws_path, len_path]
  refine mapG_loop l _ (by omega) (fun k acc => (l, acc, (k : Int))) some rfl ?_ ?_
  · intro rec acc ha
    simp
  · intro rec k p acc hp hk ha
    simp [appe_evt, hk, getZ_at hp, W_n1 (show k ≤ 9223372036854775806 by omega), ha, show (k + 1) * 32 ≤ 140737488355328 by omega, show k ≤ 1152921504606846975 by omega]
theorem iCallAll_v (l : List Path) (h : Sm l) : S_iCallAll l = some (callAll l) := by
  unfold Sm at h
  unfold S_iCallAll callAll
  simp only [rws_path, len_path]
  refine mapG_loop l _ (by omega) (fun k acc => (acc, l, (l.length : Int), (k : Int))) some rfl ?_ ?_
  · intro rec acc ha
    simp
  · intro rec k p acc hp hk ha
    simp [appe_evt, hk, getZ_at hp, W_n1 (show k ≤ 9223372036854775806 by omega), ha, show (k + 1) * 32 ≤ 140737488355328 by omega, show k ≤ 1152921504606846975 by omega]
theorem ifA_t {β : Type} (x : Option β) : ifA (true = true) x = x := rfl
theorem lFnExactCallAll_v (x : List Path) (h : x.length ≤ maxLen ∧ ∀ y ∈ x, OkPath y) : S_lFnExactCallAll x = some true := by
  obtain ⟨r, e, d⟩ := lszPathS_v x h 1048576 (by decide) (by decide)
  unfold S_lFnExactCallAll
  simp only [rws_path]
  rcases d with d | ⟨_, _, hs⟩
  · simp [e, d]
  · have hg : Sm (callAll x) := by unfold Sm callAll at *; simpa using hs
    obtain ⟨n0, b0, c0, d0, f0, e0⟩ := lmarkPathS_m x hs 1 (by omega) (by omega)
    obtain ⟨n1, b1, c1, d1, f1, e1⟩ := lmarkEventS_m _ hg 1 (by omega) (by omega)
    have e2 := lheldEventS_h b1 1 n1 (by omega) (by omega) f1
    simp (disch := omega) [e, show ¬ r < 0 by omega, ltoPathS_v x hs, sCallAll_v x hs, iCallAll_v x hs, leqEventS_v _ _ hg, leqPathS_v _ _ hs, e0, e1, e2, cnd_no, ifA_t]
theorem lightsNow_sm (x : Town) (h : SmTown x) : Sm (lightsNow x) := by
  have h0 := h.1
  unfold Sm lightsNow lightsOf at *
  split
  · split
    · simpa using h0
    · simp
  · simpa using h0
theorem lFnExactLightsNow_v (x : Town) (h : OkTown x) : S_lFnExactLightsNow x = some true := by
  obtain ⟨r, e, d⟩ := lszTown_v x h 1048576 (by decide) (by decide)
  unfold S_lFnExactLightsNow
  simp only [rws_note_ss, eta_Control, eta_Town]
  rcases d with d | ⟨_, _, hs⟩
  · simp [e, d]
  · have hg : Sm (lightsNow x) := lightsNow_sm x hs
    obtain ⟨n0, b0, c0, d0, f0, e0⟩ := lmarkTown_m x hs 1 (by omega) (by omega)
    obtain ⟨n1, b1, c1, d1, f1, e1⟩ := lmarkIntS_m _ hg 1 (by omega) (by omega)
    have e2 := lheldIntS_h b1 1 n1 (by omega) (by omega) f1
    simp (disch := omega) [e, show ¬ r < 0 by omega, ltoTown_v x hs, sLightsNow_v x hs, iLightsNow_v x hs, leqIntS_v _ _ hg, leqTown_v _ _ hs, e0, e1, e2, cnd_no, ifA_t, AV.okU, okUs]
end Go.Sh
