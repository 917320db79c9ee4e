/- Notes, steps that are carried out. -/
import Derived.Test.YtjgfhonfmjfabaaGreatI2
set_option linter.all false
namespace Go.Sh
open Go.Fx
theorem cut_some {t : Town} {e : Note} (hg : t.record.getLast? = some e) : cutLast t = if e.second = t.now then t.record.take (t.record.length - 1) else t.record := by
  unfold cutLast
  rw [hg, take_dropLast]
theorem noteLights_nil (s : Int) (v : List Int) : noteLights [] s v = addEntry [] s v := rfl
theorem sl34Note_v (t : Town) (h : SmTown t) (hl : t.record.length ≤ 1000) (hb : 0 ≤ t.books ∧ t.books ≤ 1000) : S_sl34Note t = some (note t) := by
  have hv := lightsNow_sm t h
  have h4 := h.2.2.2.2
  have hc := cut_len t
  have hcs := smR_cut h4
  unfold S_sl34Note note
  simp only [rws_path, rws_i, rws_want, rws_lamp, rws_note_ss, eta_Control, eta_Town, sLightsNow_v t h, bnd_some, len_note, geti_note_ss]
  have last : ∀ l : List Note, l.length ≤ 1000 → SmR l → (bnd (S_sNoteLights l t.now (lightsNow t)) fun r => cnd (!r.2) (cnd ((l.length : Int) == 60) (bnd (S_sAddEntry [] t.now (lightsNow t)) fun r5 => bnd (S_sMin 1000 t.books) fun r6 => some ({ t with record := r5.1, books := W (r6 + 1) } : Town)) (some { t with record := r.1 })) (some { t with record := r.1 })) =
      some (if (noteLights l t.now (lightsNow t)).2 = false ∧ l.length = 60 then { t with record := (noteLights [] t.now (lightsNow t)).1, books := t.books + 1 } else { t with record := (noteLights l t.now (lightsNow t)).1 }) := by
    intro l h1 h2
    simp only [sNoteLights_v l t.now _ h2 h1 hv, sAddEntry_v [] t.now _ smR_nil (by simp) hv, sMin_v, bnd_some, noteLights_nil, show (if t.books < 1000 then t.books else 1000) = t.books by split <;> omega]
    rw [W_id (by omega) (by omega)]
    cases (noteLights l t.now (lightsNow t)).2 <;> by_cases c : l.length = 60 <;> simp [c, cnd_if] <;> omega
  cases hg : t.record.getLast? with
  | none =>
    have hn : t.record = [] := by simpa using hg
    have hcut : cutLast t = t.record := by unfold cutLast; rw [hg]
    rw [hcut]
    rw [← last t.record hl h4]
    simp [hn]
  | some e =>
    obtain ⟨e1, e2⟩ := last_get hg
    have hk1 : W ((t.record.length : Int) - 1) = ((t.record.length - 1 : Nat) : Int) := by rw [W_id (by omega) (by omega)]; omega
    rw [hk1, show decide (((t.record.length : Nat) : Int) > 0) = true from decide_eq_true (by omega), cnd_tt, getZ_at e1]
    rw [cut_some hg] at hcs ⊢
    by_cases c : e.second = t.now
    · rw [if_pos c] at hcs ⊢
      simp only [c, beq_self_eq_true, cnd_tt]
      rw [ifA_pos (by omega), Int.toNat_natCast, show Int.toNat 0 = 0 from rfl, List.drop_zero]
      simp only [take_note, rws_note_ss, sl27Copy_v _ hcs, bnd_some, len_note]
      exact last _ (by simp; omega) hcs
    · rw [if_neg c]
      simp only [show (e.second == t.now) = false from beq_eq_false_iff_ne.2 c, cnd_ff]
      exact last _ hl h4
theorem inoted_v (t : Town) (h : SmTown t) (hl : t.record.length ≤ 1000) (hb : 0 ≤ t.books ∧ t.books ≤ 1000) : S_inoted t = some (note t) := by
  have hv := lightsNow_sm t h
  have h4 := h.2.2.2.2
  have hc := cut_len t
  have hcs := smR_cut h4
  unfold S_inoted note
  simp only [rws_path, rws_i, rws_want, rws_lamp, rws_note_ss, rws_note_so, rws_note_oo, eta_Control, eta_Town, iLightsNow_v t h, bnd_some, len_note, geti_note_so]
  have last : ∀ l : List Note, l.length ≤ 1000 → SmR l → (cnd ((l.length : Int) == 60) (bnd (S_iNoteLights l t.now (lightsNow t)) fun r => cnd r.2 (some ({ t with record := r.1 } : Town)) (bnd (S_iNoteLights [] t.now (lightsNow t)) fun r4 => some { t with record := r4.1, books := W (t.books + 1) })) (bnd (S_iNoteLights l t.now (lightsNow t)) fun r => some { t with record := r.1 })) =
      some (if (noteLights l t.now (lightsNow t)).2 = false ∧ l.length = 60 then { t with record := (noteLights [] t.now (lightsNow t)).1, books := t.books + 1 } else { t with record := (noteLights l t.now (lightsNow t)).1 }) := by
    intro l h1 h2
    simp only [iNoteLights_v l t.now _ h2 h1 hv, iNoteLights_v [] t.now _ smR_nil (by simp) hv, bnd_some]
    rw [W_id (by omega) (by omega)]
    cases (noteLights l t.now (lightsNow t)).2 <;> by_cases c : l.length = 60 <;> simp [c, cnd_if] <;> omega
  cases hg : t.record.getLast? with
  | none =>
    have hn : t.record = [] := by simpa using hg
    have hcut : cutLast t = t.record := by unfold cutLast; rw [hg]
    rw [hcut]
    rw [← last t.record hl h4]
    simp [hn]
  | some e =>
    obtain ⟨e1, e2⟩ := last_get hg
    have hk1 : W ((t.record.length : Int) - 1) = ((t.record.length - 1 : Nat) : Int) := by rw [W_id (by omega) (by omega)]; omega
    rw [hk1, show decide (((t.record.length : Nat) : Int) > 0) = true from decide_eq_true (by omega), cnd_tt, getZ_at e1]
    rw [cut_some hg] at hcs ⊢
    by_cases c : e.second = t.now
    · rw [if_pos c] at hcs ⊢
      simp only [c, beq_self_eq_true, cnd_tt]
      rw [ifA_pos (by omega), Int.toNat_natCast, show Int.toNat 0 = 0 from rfl, List.drop_zero]
      simp only [take_note, rws_note_so, len_note]
      exact last _ (by simp; omega) hcs
    · rw [if_neg c]
      simp only [show (e.second == t.now) = false from beq_eq_false_iff_ne.2 c, cnd_ff]
      exact last _ hl h4
def stepped (t o : Town) (ok : Bool) : Town × Bool := if ok && (isTown t && isTown o) then (o, true) else (t, false)
theorem sl34Done_v (t o : Town) (ok : Bool) (h : SmTown t) (h' : SmTown o) : S_sl34Done t o ok = some (stepped t o ok) := by
  unfold S_sl34Done stepped
  simp only [rws_path, rws_i, rws_want, rws_lamp, rws_note_ss, eta_Control, eta_Town, sl33Copy_v t h, sIsTown_v t h, sIsTown_v o h', bnd_some]
  cases ok <;> cases isTown t <;> cases isTown o <;> simp [eta_Control, eta_Town]
theorem istepped_v (t o : Town) (ok : Bool) (h : SmTown t) (h' : SmTown o) : S_istepped t o ok = some (stepped t o ok) := by
  unfold S_istepped stepped
  simp only [rws_path, rws_i, rws_want, rws_lamp, rws_note_ss, rws_note_so, rws_note_oo, eta_Control, eta_Town, icloneTown_v t h, iIsTown_v t h, iIsTown_v o h', bnd_some]
  cases ok <;> cases isTown t <;> cases isTown o <;> simp [eta_Control, eta_Town]
theorem stepped_sm {t o : Town} {ok : Bool} (h : SmTown t) (h' : SmTown o) : SmTown (stepped t o ok).1 := by
  unfold stepped
  split
  · exact h'
  · exact h
end Go.Sh
