/- StepSecond. -/
import Derived.Test.YtjgfhonfmjfabaaGreatJ3
set_option linter.all false
namespace Go.Sh
open Go.Fx
theorem clrs_wants (w : List Want) : List.map clrs (w.map wantR.enc) = w.map wantR.enc := clrs_want w
theorem sStepAsk_v (l : List Path) (x : Control) (w : List Want) (h : Sm l) (hx : SmControl x) (hw : Sm w) : S_sStepAsk l x w = some (if isControl l x && areWants l w then (asked l x w, waited (asked l x w) w) else (x, w)) := by
  have hw' := hw
  unfold Sm at hw'
  unfold S_sStepAsk
  simp only [rws_path, rws_i, rws_want, eta_Control, sIsControl_v l x h hx, sAreWants_v l w h hw, sl14Copy_v x hx, sTickControl_v l x h hx, sMustChange_v l x w h hx hw, sNextStage_v l x w h hx hw, sAskStage_v l x _ h hx (nextStage_sm l x w), bnd_some, clrs_want, len_want]
  cases hc : isControl l x with
  | false =>
    simp only [Bool.not_false, cnd_tt]
    rw [ifA_pos (by simp; omega)]
    simp
  | true =>
  cases ha : areWants l w with
  | false =>
    simp only [Bool.not_false, Bool.not_true, cnd_tt, cnd_ff]
    rw [ifA_pos (by simp; omega)]
    simp
  | true =>
  simp only [Bool.not_true, cnd_ff, Bool.and_self, if_true]
  cases hm : mustChange l x w with
  | true =>
    have hy : asked l x w = (askStage l x (nextStage l x w)).1 := by unfold asked; rw [if_pos hm]
    have hyc := asked_control (w := w) hc
    have hys := asked_sm (l := l) (w := w) hx
    rw [hy] at hyc hys
    simp only [cnd_tt, sLightsOf_v l _ h hys, bnd_some, hy]
    unfold waited
    refine filterMap_loop w _ (by omega) (fun k acc => ((l, w, acc, lightsOf l (askStage l x (nextStage l x w)).1, (k : Int)), ((⟨[], 0, [], 0⟩ : Control), (askStage l x (nextStage l x w)).1))) (fun acc => some ((askStage l x (nextStage l x w)).1, acc)) rfl ?_ ?_
    · intro rec acc hl; simp [eta_Control]
    · intro rec k z acc hz hk hl
      obtain ⟨h1, h2, h3⟩ := wants_mem ha (mem_at hz)
      simp [hk, getZ_at hz, sFindPath_v _ _ h, getZ_light hyc h1, W_n1 (show k ≤ 9223372036854775806 by omega), sMin_v, show W (z.wait + 1) = z.wait + 1 from W_id (by omega) (by omega), eta_Control]
      by_cases c : lightAt (askStage l x (nextStage l x w)).1 z.path = 1
      · simp [c]
      · have hb : (if z.wait + 1 < 100000 then z.wait + 1 else 100000) = bump z.wait := by unfold bump; split <;> split <;> omega
        simp [c, show (lightAt (askStage l x (nextStage l x w)).1 z.path != 1) = true from bne_iff_ne.2 c, hb, appe_want, show (acc.length + 1) * 16 ≤ 140737488355328 by omega, show acc.length ≤ 1152921504606846975 by omega]
  | false =>
    have hy : asked l x w = tick l x := by unfold asked; rw [if_neg (by rw [hm]; simp)]
    have hyc := asked_control (w := w) hc
    have hys := asked_sm (l := l) (w := w) hx
    rw [hy] at hyc hys
    simp only [cnd_ff, sLightsOf_v l _ h hys, bnd_some, hy]
    unfold waited
    refine filterMap_loop w _ (by omega) (fun k acc => ((l, w, acc, lightsOf l (tick l x), (k : Int)), ((⟨[], 0, [], 0⟩ : Control), (tick l x)))) (fun acc => some ((tick l x), acc)) rfl ?_ ?_
    · intro rec acc hl; simp [eta_Control]
    · intro rec k z acc hz hk hl
      obtain ⟨h1, h2, h3⟩ := wants_mem ha (mem_at hz)
      simp [hk, getZ_at hz, sFindPath_v _ _ h, getZ_light hyc h1, W_n1 (show k ≤ 9223372036854775806 by omega), sMin_v, show W (z.wait + 1) = z.wait + 1 from W_id (by omega) (by omega), eta_Control]
      by_cases c : lightAt (tick l x) z.path = 1
      · simp [c]
      · have hb : (if z.wait + 1 < 100000 then z.wait + 1 else 100000) = bump z.wait := by unfold bump; split <;> split <;> omega
        simp [c, show (lightAt (tick l x) z.path != 1) = true from bne_iff_ne.2 c, hb, appe_want, show (acc.length + 1) * 16 ≤ 140737488355328 by omega, show acc.length ≤ 1152921504606846975 by omega]
def prioStage (l : List Path) (x : Control) (w : List Want) (r : Prio) : Control :=
  if (wish l x r).toList == bsHold.toList then tick l x else if (wish l x r).toList == bsCall.toList then (askStage l x (addToStage l [r.path])).1 else asked l x w
def stepPrio (l : List Path) (x : Control) (w : List Want) (r : Prio) : Control × (List Want × Prio) :=
  if isControl l x && (areWants l w && isPrio l r) then (prioStage l x w r, waited (prioStage l x w r) w, shorter r) else (x, w, r)
theorem prioStage_control {l : List Path} {x : Control} {w : List Want} {r : Prio} (h : isControl l x = true) : isControl l (prioStage l x w r) = true := by
  unfold prioStage
  split
  · exact tick_control h
  · split
    · exact askStage_control h
    · exact asked_control h
theorem prioStage_sm {l : List Path} {x : Control} {w : List Want} {r : Prio} (h : SmControl x) : SmControl (prioStage l x w r) := by
  unfold prioStage
  split
  · exact tick_sm h
  · split
    · exact askStage_sm h (addToStage_sm (sm_one _))
    · exact asked_sm h
theorem shorter_if (r : Prio) : (if r.left > 1 then (⟨r.path, r.left - 1⟩ : Prio) else ⟨0, 0⟩) = shorter r := by
  unfold shorter
  by_cases c : r.left > 1
  · rw [if_pos c, if_neg (by omega)]
  · rw [if_neg c, if_pos (by omega)]
theorem sStepPrio_v (l : List Path) (x : Control) (w : List Want) (r : Prio) (h : Sm l) (hx : SmControl x) (hw : Sm w) : S_sStepPrio l x w r = some (stepPrio l x w r) := by
  have hw' := hw
  unfold Sm at hw'
  unfold S_sStepPrio stepPrio
  simp only [rws_path, rws_i, rws_want, eta_Control, sIsControl_v l x h hx, sAreWants_v l w h hw, sIsPrio_v l r h, sl14Copy_v x hx, sTickControl_v l x h hx, sStepAsk_v l x w h hx hw, sPrioWish_v l x r h hx, sAddToStage_v l _ h (sm_one _), sAskStage_v l x _ h hx (addToStage_sm (sm_one _)), bnd_some, clrs_want, len_want]
  cases hc : isControl l x with
  | false =>
    simp only [Bool.not_false, cnd_tt]
    rw [ifA_pos (by simp; omega)]
    simp
  | true =>
  cases ha : areWants l w with
  | false =>
    simp only [Bool.not_false, Bool.not_true, cnd_tt, cnd_ff]
    rw [ifA_pos (by simp; omega)]
    simp
  | true =>
  cases hp : isPrio l r with
  | false =>
    simp only [Bool.not_false, Bool.not_true, cnd_tt, cnd_ff]
    rw [ifA_pos (by simp; omega)]
    simp
  | true =>
  have hl := prio_left hp
  have hyc := prioStage_control (w := w) (r := r) hc
  have hys := prioStage_sm (l := l) (w := w) (r := r) hx
  have hwt := sl16Wants_v l (prioStage l x w r) w h hys hw hyc ha
  simp only [Bool.not_true, cnd_ff, Bool.and_self, if_true, show (ByteArray.mk (List.toArray [104, 111, 108, 100])) = bsHold from rfl, show (ByteArray.mk (List.toArray [99, 97, 108, 108])) = bsCall from rfl, show W (r.left - 1) = r.left - 1 from W_id (by omega) (by omega)]
  rw [← shorter_if r]
  unfold prioStage at hwt ⊢
  cases c1 : (wish l x r).toList == bsHold.toList with
  | true =>
    rw [c1, if_pos rfl] at hwt
    simp only [cnd_tt, if_true, hwt, bnd_some]
    by_cases c : r.left > 1 <;> simp [c]
  | false =>
    rw [c1, if_neg (by simp)] at hwt
    cases c2 : (wish l x r).toList == bsCall.toList with
    | true =>
      rw [c2, if_pos rfl] at hwt
      simp only [cnd_tt, cnd_ff, if_true, hwt, bnd_some]
      by_cases c : r.left > 1 <;> simp [c]
    | false =>
      simp only [cnd_ff]
      by_cases c : r.left > 1 <;> simp [c]
theorem iStepPrio_v (l : List Path) (x : Control) (w : List Want) (r : Prio) (h : Sm l) (hx : SmControl x) (hw : Sm w) : S_iStepPrio l x w r = some (stepPrio l x w r) := by
  unfold S_iStepPrio stepPrio
  simp only [rws_path, rws_i, rws_want, eta_Control, iIsControl_v l x h hx, iAreWants_v l w h hw, iIsPrio_v l r h, icloneControl_v x hx, clone_want w hw, iTickControl_v l x h hx, iasked_v l x w h hx hw, iPrioWish_v l x r h hx, iAddToStage_v l _ h (sm_one _), iAskStage_v l x _ h hx (addToStage_sm (sm_one _)), bnd_some]
  cases hc : isControl l x with
  | false => simp
  | true =>
  cases ha : areWants l w with
  | false => simp
  | true =>
  cases hp : isPrio l r with
  | false => simp
  | true =>
  have hl := prio_left hp
  have hyc := prioStage_control (w := w) (r := r) hc
  have hys := prioStage_sm (l := l) (w := w) (r := r) hx
  have hwt := iwaited_v l (prioStage l x w r) w h hys hw hyc ha
  simp only [Bool.not_true, cnd_ff, Bool.and_self, if_true, show (ByteArray.mk (List.toArray [104, 111, 108, 100])) = bsHold from rfl, show (ByteArray.mk (List.toArray [99, 97, 108, 108])) = bsCall from rfl, ishorter_v r hl]
  unfold prioStage at hwt ⊢
  cases c1 : (wish l x r).toList == bsHold.toList with
  | true =>
    rw [c1, if_pos rfl] at hwt
    simp [hwt]
  | false =>
    rw [c1, if_neg (by simp)] at hwt
    cases c2 : (wish l x r).toList == bsCall.toList with
    | true =>
      rw [c2, if_pos rfl] at hwt
      simp [hwt]
    | false =>
      rw [c2, if_neg (by simp)] at hwt
      simp [hwt]
def seconded (t : Town) : Town :=
  if mode t.paths t.lamps t.power = 0 then { t with now := t.now + 1, control := (stepPrio t.paths t.control t.wants t.prio).1, wants := (stepPrio t.paths t.control t.wants t.prio).2.1, prio := (stepPrio t.paths t.control t.wants t.prio).2.2 } else { t with now := t.now + 1 }
def stepSecond (t : Town) : Town × Bool := if isTown t = true then stepped t (note (seconded t)) true else (t, false)
theorem stepPrio_sm {l : List Path} {x : Control} {w : List Want} {r : Prio} (hx : SmControl x) (hw : Sm w) : SmControl (stepPrio l x w r).1 ∧ Sm (stepPrio l x w r).2.1 := by
  unfold stepPrio
  split
  · exact ⟨prioStage_sm hx, waited_sm hw⟩
  · exact ⟨hx, hw⟩
theorem seconded_sm {t : Town} (h : SmTown t) : SmTown (seconded t) := by
  obtain ⟨h0, h1, h2, h3, h4⟩ := h
  unfold seconded
  split
  · exact ⟨h0, (stepPrio_sm h1 h2).1, (stepPrio_sm h1 h2).2, h3, h4⟩
  · exact ⟨h0, h1, h2, h3, h4⟩
theorem seconded_record (t : Town) : (seconded t).record = t.record ∧ (seconded t).books = t.books := by
  unfold seconded
  split <;> exact ⟨rfl, rfl⟩
theorem sStepSecond_v (t : Town) (h : SmTown t) : S_sStepSecond t = some (stepSecond t) := by
  have hh := seconded_sm h
  obtain ⟨hr, hb⟩ := seconded_record t
  unfold S_sStepSecond stepSecond
  simp only [rws_path, rws_i, rws_want, rws_lamp, rws_note_ss, eta_Control, eta_Town, sl33Copy_v t h, sIsTown_v t h, sModeOf_v t h, sStepPrio_v _ _ _ t.prio h.1 h.2.1 h.2.2.1, bnd_some]
  cases ht : isTown t with
  | false => simp
  | true =>
    obtain ⟨p1, p2, p3, p4, p5, p6, p7, p8, p9⟩ := town_parts ht
    have e := sNote_vT ht hr hb hh
    have hn := note_smT ht hr hh
    rw [show W (t.now + 1) = t.now + 1 from W_id (by omega) (by omega)]
    unfold seconded at e hn ⊢
    by_cases c : mode t.paths t.lamps t.power = 0
    · simp only [c, if_true] at e hn ⊢
      simp [e, eta_Control, eta_Town, sl34Done_v t _ true h hn]
    · simp only [c, if_false] at e hn ⊢
      simp [show (mode t.paths t.lamps t.power == 0) = false from beq_eq_false_iff_ne.2 c, e, eta_Control, eta_Town, sl34Done_v t _ true h hn]
theorem iStepSecond_v (t : Town) (h : SmTown t) : S_iStepSecond t = some (stepSecond t) := by
  have hh := seconded_sm h
  obtain ⟨hr, hb⟩ := seconded_record t
  unfold S_iStepSecond stepSecond
  simp only [rws_path, rws_i, rws_want, rws_lamp, rws_note_ss, rws_note_oo, eta_Control, eta_Town, icloneTown_v t h, iIsTown_v t h, iModeOf_v t h, iStepPrio_v _ _ _ t.prio h.1 h.2.1 h.2.2.1, bnd_some]
  cases ht : isTown t with
  | false => simp
  | true =>
    obtain ⟨p1, p2, p3, p4, p5, p6, p7, p8, p9⟩ := town_parts ht
    have e := iNote_vT ht hr hb hh
    have hn := note_smT ht hr hh
    rw [show W (t.now + 1) = t.now + 1 from W_id (by omega) (by omega)]
    unfold seconded at e hn ⊢
    by_cases c : mode t.paths t.lamps t.power = 0
    · simp only [c, if_true] at e hn ⊢
      simp [e, eta_Control, eta_Town, istepped_v t _ true h hn]
    · simp only [c, if_false] at e hn ⊢
      simp [show (mode t.paths t.lamps t.power == 0) = false from beq_eq_false_iff_ne.2 c, e, eta_Control, eta_Town, istepped_v t _ true h hn]
theorem stepSecond_sm {t : Town} (h : SmTown t) : SmTown (stepSecond t).1 := by
  unfold stepSecond
  split
  · rename_i hc
    exact stepped_sm h (note_smT hc (seconded_record t).1 (seconded_sm h))
  · exact h
theorem lFnExactStepSecond_v (t : Town) (h : OkTown t) : S_lFnExactStepSecond t = some true := by
  obtain ⟨r, e, d⟩ := lszTown_v t h 1048576 (by decide) (by decide)
  unfold S_lFnExactStepSecond
  simp only [rws_path, rws_i, rws_want, rws_lamp, rws_note_ss, eta_Control, eta_Town]
  rcases d with d | ⟨_, _, hs⟩
  · simp [e, d]
  · have hg := stepSecond_sm hs
    obtain ⟨n0, b0, c0, d0, f0, e0⟩ := lmarkTown_m t hs 1 (by omega) (by omega)
    obtain ⟨n1, b1, c1, d1, f1, e1⟩ := lmarkTown_m _ hg 1 (by omega) (by omega)
    have e2 := lheldTown_h b1 1 n1 (by omega) (by omega) f1
    simp (disch := omega) [e, show ¬ r < 0 by omega, ltoTown_v t hs, sStepSecond_v t hs, iStepSecond_v t hs, leqTown_v _ _ hg, leqTown_v _ _ hs, e0, e1, e2, cnd_no, ifA_t, AV.okU, okUs, eta_Control, eta_Town]
end Go.Sh
