/- StepBus, ReportAll. -/
import Derived.Test.YtjgfhonfmjfabaaGreatI3
set_option linter.all false
namespace Go.Sh
open Go.Fx
theorem iisBus_v (l : List Path) (id : Int) (hl : Sm l) : S_iisBus l id = some (isBus l id) := by
  unfold S_iisBus isBus
  simp only [rws_path, iFindPath_v _ _ hl, bnd_some, geti_path, cnd_if]
  by_cases hf : findPath l id < 0
  · simp [hf, show ¬ (findPath l id ≥ 0) by omega]
  · simp [hf, show (0 : Int) ≤ findPath l id by omega, getZ_find hf]
def askPrio (l : List Path) (x : Prio) (p : Int) : Prio × Bool := if isPrio l x && (x.path == 0 && isBus l p) then (⟨p, 20⟩, true) else (x, false)
theorem isPrio_new {l : List Path} {x : Prio} (h : isPrio l x = true) (p : Int) : isPrio l ⟨p, 20⟩ = isBus l p := by
  unfold isPrio at *
  rw [Bool.and_eq_true] at h
  have : ((⟨p, 20⟩ : Prio) = ⟨0, 0⟩) = False := by simp
  simp [h.1, this, inR]
theorem sAskPrio_v (l : List Path) (x : Prio) (p : Int) (hl : Sm l) : S_sAskPrio l x p = some (askPrio l x p) := by
  unfold S_sAskPrio askPrio
  simp only [rws_path, sIsPrio_v _ _ hl, bnd_some]
  cases h : isPrio l x with
  | false => simp
  | true =>
    rw [isPrio_new h]
    by_cases c : x.path = 0
    · cases isBus l p <;> simp [c]
    · simp [show (x.path != 0) = true by simpa using c, show (x.path == 0) = false by simpa using c]
theorem iAskPrio_v (l : List Path) (x : Prio) (p : Int) (hl : Sm l) : S_iAskPrio l x p = some (askPrio l x p) := by
  unfold S_iAskPrio askPrio
  simp only [rws_path, iIsPrio_v _ _ hl, iisBus_v _ _ hl, bnd_some]
  cases h : isPrio l x with
  | false => simp
  | true =>
    by_cases c : x.path = 0
    · cases isBus l p <;> simp [c]
    · simp [show (x.path != 0) = true by simpa using c, show (x.path == 0) = false by simpa using c]
def stepBus (t : Town) (p : Int) : Town × Bool := stepped t { t with prio := (askPrio t.paths t.prio p).1 } (askPrio t.paths t.prio p).2
theorem sStepBus_v (t : Town) (p : Int) (h : SmTown t) : S_sStepBus t p = some (stepBus t p) := by
  have h' : SmTown { t with prio := (askPrio t.paths t.prio p).1 } := h
  unfold S_sStepBus stepBus
  simp only [rws_path, rws_i, rws_want, rws_lamp, rws_note_ss, eta_Control, eta_Town, sl33Copy_v t h, sAskPrio_v _ _ _ h.1, bnd_some, sl34Done_v t _ _ h h']
theorem iStepBus_v (t : Town) (p : Int) (h : SmTown t) : S_iStepBus t p = some (stepBus t p) := by
  have h' : SmTown { t with prio := (askPrio t.paths t.prio p).1 } := h
  unfold S_iStepBus stepBus
  simp only [rws_path, rws_i, rws_want, rws_lamp, rws_note_ss, rws_note_oo, eta_Control, eta_Town, icloneTown_v t h, iAskPrio_v _ _ _ h.1, bnd_some, istepped_v t _ _ h h']
theorem stepBus_sm {t : Town} (h : SmTown t) (p : Int) : SmTown (stepBus t p).1 := stepped_sm h h
theorem lFnExactStepBus_v (x : Town × Int) (h : OkTown x.1 ∧ Rg x.2) : S_lFnExactStepBus x.1 x.2 = some true := by
  obtain ⟨t, p⟩ := x
  obtain ⟨r, e, d⟩ := lszTown_v t h.1 1048576 (by decide) (by decide)
  unfold S_lFnExactStepBus
  simp only [rws_path, rws_i, rws_want, rws_lamp, rws_note_ss, eta_Control, eta_Town]
  rcases d with d | ⟨_, _, hs⟩
  · simp [e, d]
  · have hg := stepBus_sm hs p
    obtain ⟨n0, b0, c0, d0, f0, e0⟩ := lmarkTown_m t hs 1 (by omega) (by omega)
    obtain ⟨n1, b1, c1, d1, f1, e1⟩ := lmarkTown_m _ hg 1 (by omega) (by omega)
    have e2 := lheldTown_h b1 1 n1 (by omega) (by omega) f1
    simp (disch := omega) [e, show ¬ r < 0 by omega, ltoTown_v t hs, sStepBus_v t p hs, iStepBus_v t p hs, leqTown_v _ _ hg, leqTown_v _ _ hs, e0, e1, e2, cnd_no, ifA_t, AV.okU, okUs, eta_Control, eta_Town]
def reportAll (t : Town) (s : Int) : List Report := t.paths.filterMap fun p => if (report t p.id s).2 = true then some (report t p.id s).1 else none
theorem appe_report (l : List Report) (r : Report) {β : Type} (K : List Report → Option β) : rws reportR (l.map reportR.enc ++ [[I r.path, I r.second, I r.light, I r.since, I r.other]]) K = K (l ++ [r]) :=
  (rws_app _ _ _ K).trans ((rws_report l _).trans (row_report _ _ _ _ _ fun l' => K (l ++ l')))
theorem sReportAll_v (t : Town) (s : Int) (h : SmTown t) : S_sReportAll t s = some (reportAll t s) := by
  have hl := h.1
  unfold Sm at hl
  unfold S_sReportAll reportAll
  simp only [rws_path, rws_i, rws_want, rws_lamp, rws_note_ss, eta_Control, eta_Town, len_path, geti_path]
  refine filterMap_loop t.paths _ (by omega) (fun k acc => ((s, acc, (k : Int)), t)) some rfl ?_ ?_
  · intro rec acc ha; simp
  · intro rec k x acc hx hk ha
    simp [hk, getZ_at hx, sReportOf_v t _ _ h, W_n1 (show k ≤ 9223372036854775806 by omega), eta_Control, eta_Town]
    cases (report t x.id s).2 with
    | false => simp
    | true => simp [appe_report, show (acc.length + 1) * 40 ≤ 140737488355328 by omega, show acc.length ≤ 1152921504606846975 by omega]
theorem iReportAll_v (t : Town) (s : Int) (h : SmTown t) : S_iReportAll t s = some (reportAll t s) := by
  have hl := h.1
  unfold Sm at hl
  unfold S_iReportAll reportAll
  simp only [rws_path, rws_i, rws_want, rws_lamp, rws_note_ss, eta_Control, eta_Town, len_path, geti_path]
  refine filterMap_loop t.paths _ (by omega) (fun k acc => ((s, acc, t.paths, (t.paths.length : Int), (k : Int)), t)) some rfl ?_ ?_
  · intro rec acc ha; simp
  · intro rec k x acc hx hk ha
    simp [hk, getZ_at hx, iReportOf_v t _ _ h, W_n1 (show k ≤ 9223372036854775806 by omega), eta_Control, eta_Town]
    cases (report t x.id s).2 with
    | false => simp
    | true => simp [appe_report, show (acc.length + 1) * 40 ≤ 140737488355328 by omega, show acc.length ≤ 1152921504606846975 by omega]
theorem lFnExactReportAll_v (x : Town × Int) (h : OkTown x.1 ∧ Rg x.2) : S_lFnExactReportAll x.1 x.2 = some true := by
  obtain ⟨t, p⟩ := x
  obtain ⟨r, e, d⟩ := lszTown_v t h.1 1048576 (by decide) (by decide)
  unfold S_lFnExactReportAll
  simp only [rws_path, rws_i, rws_want, rws_lamp, rws_note_ss, eta_Control, eta_Town]
  rcases d with d | ⟨_, _, hs⟩
  · simp [e, d]
  · have hg : Sm (reportAll t p) := by
      have h0 := hs.1
      unfold Sm at *
      exact Nat.le_trans (List.length_filterMap_le _ _) h0
    obtain ⟨n0, b0, c0, d0, f0, e0⟩ := lmarkTown_m t hs 1 (by omega) (by omega)
    obtain ⟨n1, b1, c1, d1, f1, e1⟩ := lmarkReportS_m _ hg 1 (by omega) (by omega)
    have e2 := lheldReportS_h b1 1 n1 (by omega) (by omega) f1
    simp (disch := omega) [e, show ¬ r < 0 by omega, ltoTown_v t hs, sReportAll_v t p hs, iReportAll_v t p hs, leqReportS_v _ _ hg, leqTown_v _ _ hs, e0, e1, e2, cnd_no, ifA_t, AV.okU, okUs, eta_Control, eta_Town]
end Go.Sh
