/- Top: the law. -/
import Derived.Test.YtkbhcieejpbjpaaGreatU5
set_option linter.all false
namespace Go.Sh
open Go.Fx
theorem town_first {t : Town} (h : isTown t = true) : firstUnsafe t.paths t.record = -1 := by
  simp only [isTown, Bool.and_eq_true, decide_eq_true_eq] at h
  exact h.1.1.1.1.2
theorem is_safe {t : Town} (h : SmTown t) (ht : isTown t = true) : S_iAreLightsSafe t = some true := by
  unfold S_iAreLightsSafe
  simp only [rC_v, rT_ss, rT_so, rT_oo, rT_uu, rws_path, rws_i, rws_want, rws_lamp, rws_note_ss, eta_Control, eta_Town, iLightsNow_v t h, bnd_some, iIsSafeLights_v t.paths _ h.1, lightsNow_safe ht]
theorem cnt_zero {l : List Evt} {k : Int} (h : cnt (fun x : Evt => x.kind == k) l = 0) : ∀ e ∈ l, e.kind ≠ k := by
  intro e he hk
  unfold cnt at h
  have : e ∈ l.filter (fun x : Evt => x.kind == k) := List.mem_filter.2 ⟨he, by simp [hk]⟩
  have := List.length_pos_of_mem this
  omega
theorem sl35Start_n {g : L1Cur} (h : CurOk g) : Gives (S_sl35Start g) fun t => SmTown t ∧ ∃ l, t = (newTown l).1 := by
  unfold S_sl35Start
  simp only [rC_v, rT_ss, rT_so, rT_oo, rT_uu, rws_y, rws_path, eta_L1Cur]
  obtain ⟨l, g1, e1, hl, hg1⟩ := sl5Draw_g h
  rw [e1, bnd_some]
  simp only [sNewTown_v l (drawn_sm hl.1), bnd_some]
  exact ⟨_, _, rfl, ⟨newTown_sm (drawn_sm hl.1), l, rfl⟩, hg1⟩
theorem sDrawRunEvents_n (code : List Int) (h : code.length ≤ 1048576) : ∃ t r, S_sDrawRunEvents code = some (t, r) ∧ (SmTown t ∧ ∃ l, t = (newTown l).1) ∧ r.length ≤ 257 := by
  unfold S_sDrawRunEvents
  simp only [rC_v, rT_ss, rT_so, rT_oo, rT_uu, rws_y, rws_evt, eta_L1Cur]
  obtain ⟨g, e, hg⟩ := sl1New_g code h
  rw [e, bnd_some]
  obtain ⟨t, g1, e1, ht, hg1⟩ := sl35Start_n hg
  rw [e1, bnd_some]
  obtain ⟨l, g2, e2, ⟨r, hl, hr⟩, hg2⟩ := sl35List_g hg1 (m := 12) (by omega)
  rw [e2, bnd_some]
  subst hl
  exact ⟨_, _, rfl, ht, by simp; omega⟩
theorem lFnTop_v (code : List Int) (h : code.length ≤ maxLen ∧ ∀ y ∈ code, 0 ≤ y ∧ y ≤ 255) : S_lFnTop code = some true := by
  unfold S_lFnTop
  simp only [rws_y, lbig_v, bnd_some]
  by_cases hb : (code.length : Int) > 1048576
  · rw [show decide ((code.length : Int) > 1048576) = true by simpa using hb, cnd_tt]
  rw [show decide ((code.length : Int) > 1048576) = false by simpa using hb, cnd_ff]
  obtain ⟨t, L, e1, ⟨ht, p0, htn⟩, hr⟩ := sDrawRunEvents_n code (by omega)
  have hsL : Sm L := by unfold Sm; omega
  simp only [e1, bnd_some, rT_ss, rT_so, rT_oo, rT_uu, iIsTown_v t ht, sIsTown_v t ht, bne_self_eq_false, cnd_ff, rws_evt, len_evt]
  cases hT : isTown t with
  | false => rfl
  | true =>
  simp only [Bool.not_true, cnd_ff]
  have hnt := newTown_true (l := p0) (by rw [← htn]; exact hT)
  rw [← htn] at hnt
  refine run_true (fun k (x : Town) => ((L, (k : Int)), x)) L.length (fun _ x => SmTown x ∧ isTown x = true ∧ recordTrue x = true ∧ ((∀ e ∈ L, e.kind ≠ 2 ∧ e.kind ≠ 6) → TInv x)) t rfl (by omega) ⟨ht, hT, hnt.1, fun _ => ⟨hnt.2.2.1, by rw [hnt.2.1]; exact WInv.nil hnt.2.2.2⟩⟩ ?_ ?_
  · rintro rec x ⟨hx, hX, hR, hI⟩
    have hp := town_parts hX
    have hy := stepSeconds_sm hx 60
    have hG : S_iIsSafeHistory x.paths (askH x.paths (x.control, x.wants) 80) = some true := iIsSafeHistory_v _ _ (askH_safe hp.1 80) (by unfold askH; simp)
    have hH : planHist x.paths (planFor x.paths) 80 ≠ [] → S_iIsSafeHistory x.paths (planHist x.paths (planFor x.paths) 80) = some true := fun hne => by
      have hpl : isPlan x.paths (planFor x.paths) = true := by
        cases c : isPlan x.paths (planFor x.paths) with
        | true => rfl
        | false => exact absurd (by unfold planHist; rw [c]; rfl) hne
      have e : planHist x.paths (planFor x.paths) 80 = planH x.paths (planFor x.paths) 80 := by unfold planHist; rw [hpl]; rfl
      rw [e]
      exact iIsSafeHistory_v _ _ (planH_safe hpl 80) (by unfold planH; simp)
    simp only [ltF, cnd_ff, rws_evt, len_evt, iCountEvents_v _ _ hsL, bnd_some, rC_v, rT_ss, rT_so, rT_oo, rT_uu, rws_path, rws_want, eta_Control, iAreWaitsBounded_v x hx, iStepSeconds_v x 60 hx, iIsRecordTrue_v _ hy, iPlanFor_v x.paths hx.1, rws_part_ss, iPlanHistory_v x.paths _ hx.1 (planFor_sm _), iAskHistory_v x.paths x.control x.wants hx.1 hx.2.1 hx.2.2.1 hp.1 hp.2.1, rws_il_so, len_il, hG, len0]
    have tail : (cnd (planHist x.paths (planFor x.paths) 80).isEmpty (some true) (bnd (S_iIsSafeHistory x.paths (planHist x.paths (planFor x.paths) 80)) fun r => cnd r (some true) (some false))) = some true := by
      by_cases c : planHist x.paths (planFor x.paths) 80 = []
      · rw [c]; rfl
      · rw [show (planHist x.paths (planFor x.paths) 80).isEmpty = false by cases hc : planHist x.paths (planFor x.paths) 80 with | nil => exact absurd hc c | cons _ _ => rfl, cnd_ff, hH c, bnd_some, cnd_tt]
    have mid : (cnd (stepSeconds x 60).2 (cnd (!recordTrue (stepSeconds x 60).1) (some false) (bnd (S_iAreLightsSafe (stepSeconds x 60).1) fun r => cnd (!r) (some false) (some true))) (some true)) = some true := by
      cases hs : (stepSeconds x 60).2 with
      | false => rfl
      | true =>
        obtain ⟨_, g2, _⟩ := stepSeconds_t hs
        rw [cnd_tt, seconds_true hX hR 60, Bool.not_true, cnd_ff, is_safe hy g2, bnd_some]
        rfl
    have mid2 : ∀ K : Option Bool, K = some true → (cnd (stepSeconds x 60).2 (cnd (!recordTrue (stepSeconds x 60).1) (some false) (bnd (S_iAreLightsSafe (stepSeconds x 60).1) fun r => cnd (!r) (some false) K)) K) = some true := fun K hK => by rw [hK]; exact mid
    have hall := mid2 _ tail
    by_cases c6 : cnt (fun x : Evt => x.kind == 6) L = 0
    · rw [show (cnt (fun x : Evt => x.kind == 6) L == 0) = true by simp [c6], cnd_tt]
      by_cases c2 : cnt (fun x : Evt => x.kind == 2) L = 0
      · rw [show (cnt (fun x : Evt => x.kind == 2) L == 0) = true by simp [c2], cnd_tt, (hI fun e he => ⟨cnt_zero c2 e he, cnt_zero c6 e he⟩).bounded hX, Bool.not_true, cnd_ff]
        exact hall
      · rw [show (cnt (fun x : Evt => x.kind == 2) L == 0) = false by simp [c2], cnd_ff]
        exact hall
    · rw [show (cnt (fun x : Evt => x.kind == 6) L == 0) = false by simp [c6], cnd_ff]
      exact hall
  · rintro rec k x hk ⟨hx, hX, hR, hI⟩ hrec
    have hz := List.getElem?_eq_getElem hk
    generalize L[k] = ev at hz
    have ha := applyEvent_sm hx ev
    have hA : isTown (applyEvent x ev).1 = true := by rw [apply_town]; exact hX
    have hAR := apply_true hX hR ev
    have hr' := hrec (applyEvent x ev).1 ⟨ha, hA, hAR, fun hno => (hI hno).apply (hno ev (List.mem_of_getElem? hz)).1 (hno ev (List.mem_of_getElem? hz)).2⟩
    simp only [Int.natCast_succ] at hr'
    simp only [ltT hk, cnd_tt, geti_evt, getZ_at hz, rT_ss, rT_so, rT_oo, rT_uu, iApplyEvent_v x ev hx, bnd_some, iIsTown_v _ ha, hA, Bool.not_true, cnd_ff, is_safe ha hA, iIsRecordTrue_v _ ha, hAR, rws_path, rws_note_so, iFirstUnsafe_v _ _ ha.1 ha.2.2.2.2, town_first hA, rws_evt, W_n1 (show k ≤ 9223372036854775806 by omega), show ((-1 : Int) != Neg.neg 1) = false from rfl]
    exact hr'
end Go.Sh
