/- StepPower, StepHelp. -/
import Derived.Test.YtjgfhonfmjfabaaGreatI6
set_option linter.all false
namespace Go.Sh
open Go.Fx
theorem sModeOf_v (t : Town) (h : SmTown t) : S_sModeOf t = some (mode t.paths t.lamps t.power) := by
  unfold S_sModeOf
  simp [sModeFor_v _ _ _ h.1 h.2.2.2.1]
theorem iModeOf_v (t : Town) (h : SmTown t) : S_iModeOf t = some (mode t.paths t.lamps t.power) := by
  unfold S_iModeOf
  simp [iModeFor_v _ _ _ h.1 h.2.2.2.1]
def stepPower (t : Town) (b : Bool) : Town × Bool := if isTown t && !(t.power == b) then stepped t (note { t with power := b }) true else (t, false)
theorem note_smT {t u : Town} (h : isTown t = true) (hr : u.record = t.record) (hu : SmTown u) : SmTown (note u) := note_sm hu (by rw [hr]; have := (town_parts h).2.2.2.2.2.2.2.2; omega)
theorem sNote_vT {t u : Town} (h : isTown t = true) (hr : u.record = t.record) (hb : u.books = t.books) (hu : SmTown u) : S_sl34Note u = some (note u) := by
  have := town_parts h
  exact sl34Note_v u hu (by rw [hr]; omega) (by rw [hb]; omega)
theorem iNote_vT {t u : Town} (h : isTown t = true) (hr : u.record = t.record) (hb : u.books = t.books) (hu : SmTown u) : S_inoted u = some (note u) := by
  have := town_parts h
  exact inoted_v u hu (by rw [hr]; omega) (by rw [hb]; omega)
theorem sStepPower_v (t : Town) (b : Bool) (h : SmTown t) : S_sStepPower t b = some (stepPower t b) := by
  have h' : SmTown { t with power := b } := h
  unfold S_sStepPower stepPower
  simp only [rws_path, rws_i, rws_want, rws_lamp, rws_note_ss, eta_Control, eta_Town, sl33Copy_v t h, sIsTown_v t h, bnd_some]
  cases ht : isTown t with
  | false => simp
  | true =>
    have e := sNote_vT (u := { t with power := b }) ht rfl rfl h'
    have hn := note_smT (u := { t with power := b }) ht rfl h'
    cases hp : t.power == b with
    | true => simp
    | false => simp [e, eta_Control, eta_Town, sl34Done_v t _ true h hn]
theorem iStepPower_v (t : Town) (b : Bool) (h : SmTown t) : S_iStepPower t b = some (stepPower t b) := by
  have h' : SmTown { t with power := b } := h
  unfold S_iStepPower stepPower
  simp only [rws_path, rws_i, rws_want, rws_lamp, rws_note_ss, rws_note_oo, eta_Control, eta_Town, icloneTown_v t h, iIsTown_v t h, bnd_some]
  cases ht : isTown t with
  | false => simp
  | true =>
    have e := iNote_vT (u := { t with power := b }) ht rfl rfl h'
    have hn := note_smT (u := { t with power := b }) ht rfl h'
    cases hp : t.power == b with
    | true => simp
    | false => simp [e, eta_Control, eta_Town, istepped_v t _ true h hn]
theorem stepPower_sm {t : Town} (h : SmTown t) (b : Bool) : SmTown (stepPower t b).1 := by
  unfold stepPower
  split
  · rename_i hc
    rw [Bool.and_eq_true] at hc
    exact stepped_sm h (note_smT (t := t) hc.1 rfl h)
  · exact h
theorem lFnExactStepPower_v (x : Town × Bool) (h : OkTown x.1 ∧ True) : S_lFnExactStepPower x.1 x.2 = some true := by
  obtain ⟨t, p⟩ := x
  obtain ⟨r, e, d⟩ := lszTown_v t h.1 1048576 (by decide) (by decide)
  unfold S_lFnExactStepPower
  simp only [rws_path, rws_i, rws_want, rws_lamp, rws_note_ss, eta_Control, eta_Town]
  rcases d with d | ⟨_, _, hs⟩
  · simp [e, d]
  · have hg := stepPower_sm hs p
    obtain ⟨n0, b0, c0, d0, f0, e0⟩ := lmarkTown_m t hs 1 (by omega) (by omega)
    obtain ⟨n1, b1, c1, d1, f1, e1⟩ := lmarkTown_m _ hg 1 (by omega) (by omega)
    have e2 := lheldTown_h b1 1 n1 (by omega) (by omega) f1
    simp (disch := omega) [e, show ¬ r < 0 by omega, ltoTown_v t hs, sStepPower_v t p hs, iStepPower_v t p hs, leqTown_v _ _ hg, leqTown_v _ _ hs, e0, e1, e2, cnd_no, ifA_t, AV.okU, okUs, eta_Control, eta_Town]
def helped (t : Town) (p : Int) : Town :=
  if mode t.paths t.lamps t.power = 0 then { t with now := t.now + 1, control := siren t.paths t.control p, wants := waited (siren t.paths t.control p) t.wants, prio := shorter t.prio } else { t with now := t.now + 1 }
def stepHelp (t : Town) (p : Int) : Town × Bool := if isTown t && isRoad t.paths p then stepped t (note (helped t p)) true else (t, false)
theorem helped_sm {t : Town} (h : SmTown t) (p : Int) : SmTown (helped t p) := by
  obtain ⟨h0, h1, h2, h3, h4⟩ := h
  unfold helped
  split
  · exact ⟨h0, siren_sm h1, waited_sm h2, h3, h4⟩
  · exact ⟨h0, h1, h2, h3, h4⟩
theorem helped_record (t : Town) (p : Int) : (helped t p).record = t.record ∧ (helped t p).books = t.books := by
  unfold helped
  split <;> exact ⟨rfl, rfl⟩
theorem sStepHelp_v (t : Town) (p : Int) (h : SmTown t) : S_sStepHelp t p = some (stepHelp t p) := by
  have hh := helped_sm h p
  obtain ⟨hr, hb⟩ := helped_record t p
  unfold S_sStepHelp stepHelp isRoad
  simp only [rws_path, rws_i, rws_want, rws_lamp, rws_note_ss, eta_Control, eta_Town, sFindPath_v _ _ h.1, sl33Copy_v t h, sIsTown_v t h, sModeOf_v t h, sStepSiren_v _ _ p h.1 h.2.1, bnd_some, geti_path]
  cases ht : isTown t with
  | false => simp
  | true =>
    by_cases hf : findPath t.paths p < 0
    · simp [hf]
    · simp only [hf, decide_false, cnd_ff, getZ_find hf, Bool.not_true, Bool.not_false, Bool.true_and]
      by_cases hk : (pathAt t.paths p).kind = 2
      · simp [hk]
      · simp only [show ((pathAt t.paths p).kind == 2) = false from beq_eq_false_iff_ne.2 hk, show ((pathAt t.paths p).kind != 2) = true from bne_iff_ne.2 hk, cnd_ff, if_true]
        obtain ⟨p1, p2, p3, p4, p5, p6, p7, p8, p9⟩ := town_parts ht
        have hl := prio_left p3
        have hw := sl16Wants_v t.paths (siren t.paths t.control p) t.wants h.1 (siren_sm h.2.1) h.2.2.1 (siren_control p1) p2
        have e := sNote_vT ht hr hb hh
        have hn := note_smT ht hr hh
        rw [show W (t.now + 1) = t.now + 1 from W_id (by omega) (by omega)]
        unfold helped at e hn ⊢
        by_cases c : mode t.paths t.lamps t.power = 0
        · simp only [c, if_true] at e hn ⊢
          simp only [beq_self_eq_true, cnd_tt, hw, bnd_some]
          by_cases c2 : t.prio.left > 1
          · have hs : shorter t.prio = ⟨t.prio.path, t.prio.left - 1⟩ := by unfold shorter; rw [if_neg (by omega)]
            rw [hs] at e hn ⊢
            simp [c2, e, eta_Control, eta_Town, sl34Done_v t _ true h hn, show W (t.prio.left - 1) = t.prio.left - 1 from W_id (by omega) (by omega)]
          · have hs : shorter t.prio = ⟨0, 0⟩ := by unfold shorter; rw [if_pos (by omega)]
            rw [hs] at e hn ⊢
            simp [c2, e, eta_Control, eta_Town, sl34Done_v t _ true h hn]
        · simp only [c, if_false] at e hn ⊢
          simp [show (mode t.paths t.lamps t.power == 0) = false from beq_eq_false_iff_ne.2 c, e, eta_Control, eta_Town, sl34Done_v t _ true h hn]
theorem iStepHelp_v (t : Town) (p : Int) (h : SmTown t) : S_iStepHelp t p = some (stepHelp t p) := by
  have hh := helped_sm h p
  obtain ⟨hr, hb⟩ := helped_record t p
  unfold S_iStepHelp stepHelp
  simp only [rws_path, rws_i, rws_want, rws_lamp, rws_note_ss, rws_note_oo, eta_Control, eta_Town, icloneTown_v t h, iIsTown_v t h, iModeOf_v t h, iisRoadway_v _ _ h.1, iStepSiren_v _ _ p h.1 h.2.1, bnd_some, geti_path]
  cases ht : isTown t with
  | false => simp
  | true =>
    cases hk : isRoad t.paths p with
    | false => simp
    | true =>
        obtain ⟨p1, p2, p3, p4, p5, p6, p7, p8, p9⟩ := town_parts ht
        have hl := prio_left p3
        have hw := iwaited_v t.paths (siren t.paths t.control p) t.wants h.1 (siren_sm h.2.1) h.2.2.1 (siren_control p1) p2
        have e := iNote_vT ht hr hb hh
        have hn := note_smT ht hr hh
        rw [show W (t.now + 1) = t.now + 1 from W_id (by omega) (by omega)]
        unfold helped at e hn ⊢
        by_cases c : mode t.paths t.lamps t.power = 0
        · simp only [c, if_true] at e hn ⊢
          simp [hw, ishorter_v _ hl, e, eta_Control, eta_Town, istepped_v t _ true h hn]
        · simp only [c, if_false] at e hn ⊢
          simp [show (mode t.paths t.lamps t.power == 0) = false from beq_eq_false_iff_ne.2 c, e, eta_Control, eta_Town, istepped_v t _ true h hn]
theorem stepHelp_sm {t : Town} (h : SmTown t) (p : Int) : SmTown (stepHelp t p).1 := by
  unfold stepHelp
  split
  · rename_i hc
    rw [Bool.and_eq_true] at hc
    exact stepped_sm h (note_smT hc.1 (helped_record t p).1 (helped_sm h p))
  · exact h
theorem lFnExactStepHelp_v (x : Town × Int) (h : OkTown x.1 ∧ Rg x.2) : S_lFnExactStepHelp x.1 x.2 = some true := by
  obtain ⟨t, p⟩ := x
  obtain ⟨r, e, d⟩ := lszTown_v t h.1 1048576 (by decide) (by decide)
  unfold S_lFnExactStepHelp
  simp only [rws_path, rws_i, rws_want, rws_lamp, rws_note_ss, eta_Control, eta_Town]
  rcases d with d | ⟨_, _, hs⟩
  · simp [e, d]
  · have hg := stepHelp_sm hs p
    obtain ⟨n0, b0, c0, d0, f0, e0⟩ := lmarkTown_m t hs 1 (by omega) (by omega)
    obtain ⟨n1, b1, c1, d1, f1, e1⟩ := lmarkTown_m _ hg 1 (by omega) (by omega)
    have e2 := lheldTown_h b1 1 n1 (by omega) (by omega) f1
    simp (disch := omega) [e, show ¬ r < 0 by omega, ltoTown_v t hs, sStepHelp_v t p hs, iStepHelp_v t p hs, leqTown_v _ _ hg, leqTown_v _ _ hs, e0, e1, e2, cnd_no, ifA_t, AV.okU, okUs, eta_Control, eta_Town]
end Go.Sh
