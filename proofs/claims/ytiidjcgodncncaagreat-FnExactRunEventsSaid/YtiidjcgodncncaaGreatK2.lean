/- ApplyEvent, RunEvents. -/
import Derived.Test.YtiidjcgodncncaaGreatQM
set_option linter.all false
namespace Go.Sh
open Go.Fx
def applyEvent (t : Town) (e : Evt) : Town × Bool :=
  if e.kind = 1 then stepCall t e.path else if e.kind = 2 then stepBus t e.path else if e.kind = 3 then stepLamp t e.path e.n e.on else if e.kind = 4 then stepPower t e.on else
  if e.kind = 5 then stepSeconds t e.n else if e.kind = 6 then stepHelp t e.path else (t, false)
theorem sApplyEvent_v (t : Town) (e : Evt) (h : SmTown t) : S_sApplyEvent t e = some (applyEvent t e) := by
  unfold S_sApplyEvent applyEvent
  simp only [rC_v, rT_ss, rT_so, rT_oo, rT_uu, rws_path, rws_i, rws_want, rws_lamp, rws_note_ss, rws_note_so, rws_note_oo, eta_Control, eta_Town, sStepCall_v t _ h, sStepBus_v t _ h, sStepLamp_v t _ _ _ h, sStepPower_v t _ h, sStepSeconds_v t _ h, sStepHelp_v t _ h, sl33Copy_v t h, bnd_some, cnd_if, beq_iff_eq]
  repeat (split; · rfl)
  rfl
theorem iApplyEvent_v (t : Town) (e : Evt) (h : SmTown t) : S_iApplyEvent t e = some (applyEvent t e) := by
  unfold S_iApplyEvent applyEvent
  simp only [rC_v, rT_ss, rT_so, rT_oo, rT_uu, rws_path, rws_i, rws_want, rws_lamp, rws_note_ss, rws_note_so, rws_note_oo, eta_Control, eta_Town, iStepCall_v t _ h, iStepBus_v t _ h, iStepLamp_v t _ _ _ h, iStepPower_v t _ h, iStepSeconds_v t _ h, iStepHelp_v t _ h, icloneTown_v t h, bnd_some, cnd_if, beq_iff_eq]
  repeat (split; · rfl)
  rfl
theorem applyEvent_sm {t : Town} (h : SmTown t) (e : Evt) : SmTown (applyEvent t e).1 := by
  unfold applyEvent
  split
  · exact stepCall_sm h _
  split
  · exact stepBus_sm h _
  split
  · exact stepLamp_sm h _ _ _
  split
  · exact stepPower_sm h _
  split
  · exact stepSeconds_sm h _
  split
  · exact stepHelp_sm h _
  · exact h
theorem lFnExactApplyEvent_v (x : Town × Evt) (h : OkTown x.1 ∧ OkEvt x.2) : S_lFnExactApplyEvent x.1 x.2 = some true := by
  obtain ⟨t, p⟩ := x
  obtain ⟨r, e, d⟩ := lszTown_v t h.1 1048576 (by decide) (by decide)
  unfold S_lFnExactApplyEvent
  simp only [rC_v, rT_ss, rT_so, rT_oo, rT_uu, rws_path, rws_i, rws_want, rws_lamp, rws_note_ss, rws_note_so, rws_note_oo, eta_Control, eta_Town]
  rcases d with d | ⟨_, _, hs⟩
  · simp [e, d]
  · have hg := applyEvent_sm hs p
    obtain ⟨n0, b0, c0, d0, f0, e0⟩ := lmarkTown_m t hs 1 (by omega) (by omega)
    obtain ⟨n1, b1, c1, d1, f1, e1⟩ := lmarkTown_m _ hg 1 (by omega) (by omega)
    have e2 := lheldTown_h b1 1 n1 (by omega) (by omega) f1
    simp (disch := omega) [e, show ¬ r < 0 by omega, ltoTown_v t hs, sApplyEvent_v t p hs, iApplyEvent_v t p hs, leqTown_v _ _ hg, leqTown_v _ _ hs, e0, e1, e2, cnd_no, ifA_t, AV.okU, okUs, eta_Control, eta_Town]
def runEvents (t : Town) (l : List Evt) : Town := l.foldl (fun t e => (applyEvent t e).1) t
theorem runEvents_sm : ∀ {l : List Evt} {t : Town}, SmTown t → SmTown (runEvents t l)
  | [], _, h => h
  | e :: l, _, h => runEvents_sm (l := l) (applyEvent_sm h e)
theorem sRunEvents_v (t : Town) (l : List Evt) (h : SmTown t) (hl : Sm l) : S_sRunEvents t l = some (runEvents t l) := by
  unfold Sm at hl
  unfold S_sRunEvents
  simp only [rC_v, rT_ss, rT_so, rT_oo, rT_uu, rws_path, rws_i, rws_want, rws_lamp, rws_note_ss, rws_note_so, rws_note_oo, eta_Control, eta_Town, sl33Copy_v t h, bnd_some, rws_evt, geti_evt, len_evt]
  refine (iter_listJ l (by omega) (fun k (u : Town) => ((l, (k : Int)), ((⟨[], ⟨[], 0, [], 0⟩, [], ⟨0, 0⟩, [], false, [], 0, 0⟩ : Town), u))) t (fun _ u => SmTown u) h (fun r _ u => some (runEvents u r)) rfl ?_ ?_).trans rfl
  · intro rec u hu
    simp [runEvents, eta_Control, eta_Town]
  · intro rec k x u hu hx hk hr
    have := hr _ (applyEvent_sm hu x)
    simp only [Int.natCast_succ] at this
    simp [hk, getZ_at hx, sApplyEvent_v u x hu, W_n1 (show k ≤ 9223372036854775806 by omega), eta_Control, eta_Town, this]
    rfl
theorem iRunEvents_v (t : Town) (l : List Evt) (h : SmTown t) (hl : Sm l) : S_iRunEvents t l = some (runEvents t l) := by
  unfold Sm at hl
  unfold S_iRunEvents
  simp only [rC_v, rT_ss, rT_so, rT_oo, rT_uu, rws_path, rws_i, rws_want, rws_lamp, rws_note_ss, rws_note_so, rws_note_oo, eta_Control, eta_Town, icloneTown_v t h, bnd_some, rws_evt, geti_evt, len_evt]
  refine (iter_listJ l (by omega) (fun k (u : Town) => ((l, (l.length : Int), (k : Int)), ((⟨[], ⟨[], 0, [], 0⟩, [], ⟨0, 0⟩, [], false, [], 0, 0⟩ : Town), u))) t (fun _ u => SmTown u) h (fun r _ u => some (runEvents u r)) rfl ?_ ?_).trans rfl
  · intro rec u hu
    simp [runEvents, eta_Control, eta_Town]
  · intro rec k x u hu hx hk hr
    have := hr _ (applyEvent_sm hu x)
    simp only [Int.natCast_succ] at this
    simp [hk, getZ_at hx, iApplyEvent_v u x hu, W_n1 (show k ≤ 9223372036854775806 by omega), eta_Control, eta_Town, this]
    rfl
theorem lFnExactRunEvents_v (x : Town × List Evt) (h : OkTown x.1 ∧ x.2.length ≤ maxLen ∧ ∀ y ∈ x.2, OkEvt y) : S_lFnExactRunEvents x.1 x.2 = some true := by
  obtain ⟨t, p⟩ := x
  obtain ⟨r, e, d⟩ := lszTown_v t h.1 1048576 (by decide) (by decide)
  unfold S_lFnExactRunEvents
  simp only [rC_v, rT_ss, rT_so, rT_oo, rT_uu, rws_path, rws_i, rws_want, rws_lamp, rws_note_ss, rws_note_so, rws_note_oo, eta_Control, eta_Town]
  rcases d with d | ⟨hr0, hr1, hs⟩
  · simp [e, d]
  · obtain ⟨r', e', d'⟩ := lszEventS_v p h.2 r (by omega) (by omega)
    rcases d' with d' | ⟨_, _, hp⟩
    · simp [e, e', d', show ¬ r < 0 by omega]
    · have hg := runEvents_sm (l := p) hs
      obtain ⟨n0, b0, c0, d0, f0, e0⟩ := lmarkTown_m t hs 1 (by omega) (by omega)
      obtain ⟨n1, b1, c1, d1, f1, e1⟩ := lmarkEventS_m p hp (1 + n0) (by omega) (by omega)
      obtain ⟨n2, b2, c2, d2, f2, e2⟩ := lmarkTown_m _ hg 1 (by omega) (by omega)
      have e3 := lheldTown_h b2 1 n2 (by omega) (by omega) f2
      simp (disch := omega) [e, e', show ¬ r < 0 by omega, show ¬ r' < 0 by omega, ltoTown_v t hs, ltoEventS_v p hp, sRunEvents_v t p hs hp, iRunEvents_v t p hs hp, leqTown_v _ _ hg, leqTown_v _ _ hs, leqEventS_v _ _ hp, e0, e1, e2, e3, cnd_no, ifA_t, AV.okU, okUs, eta_Control, eta_Town]
end Go.Sh
