/- Records that grow, towns that are noted. -/
import Derived.Test.YtjgfhonfmjfabaaGreatI1
set_option linter.all false
namespace Go.Sh
open Go.Fx
def lastSig (l : List Note) : Int := match l.getLast? with | some e => e.sig | none => 0
theorem last_get {l : List Note} {e : Note} (h : l.getLast? = some e) : l[l.length - 1]? = some e ∧ 0 < l.length := by
  cases l with
  | nil => cases h
  | cons a l => rw [List.getLast?_eq_getElem?] at h; exact ⟨h, by simp⟩
theorem sLastSeal_v (l : List Note) (h : SmR l) : S_sLastSeal l = some (lastSig l) := by
  have h1 := h.1
  unfold Sm at h1
  unfold S_sLastSeal lastSig
  simp only [len_note, geti_note_ss]
  cases hl : l.getLast? with
  | none => have : l = [] := by simpa using hl
            subst this; rfl
  | some e =>
    obtain ⟨e1, e2⟩ := last_get hl
    have hk1 : W ((l.length : Int) - 1) = ((l.length - 1 : Nat) : Int) := by rw [W_id (by omega) (by omega)]; omega
    rw [hk1, getZ_at e1, show (((l.length : Nat) : Int) == 0) = false from beq_eq_false_iff_ne.2 (by omega), cnd_ff]
theorem iLastSeal_v (l : List Note) (h : SmR l) : S_iLastSeal l = some (lastSig l) := by
  have h1 := h.1
  unfold Sm at h1
  unfold S_iLastSeal lastSig
  simp only [len_note, geti_note_ss]
  cases hl : l.getLast? with
  | none => have : l = [] := by simpa using hl
            subst this; rfl
  | some e =>
    obtain ⟨e1, e2⟩ := last_get hl
    have hk1 : W ((l.length : Int) - 1) = ((l.length - 1 : Nat) : Int) := by rw [W_id (by omega) (by omega)]; omega
    rw [hk1, getZ_at e1, show (((l.length : Nat) : Int) == 0) = false from beq_eq_false_iff_ne.2 (by omega), cnd_ff]
def entryOf (l : List Note) (s : Int) (v : List Int) : Note := ⟨s, v, sealOf (lastSig l) s v⟩
def addEntry (l : List Note) (s : Int) (v : List Int) : List Note × Bool := if isRecord (l ++ [entryOf l s v]) = true then (l ++ [entryOf l s v], true) else (l, false)
theorem smR_app {l : List Note} {e : Note} (h : SmR l) (hl : l.length ≤ 1000) (he : Sm e.lights) : SmR (l ++ [e]) := by
  refine ⟨by unfold Sm; simp; omega, fun y hy => ?_⟩
  rcases List.mem_append.1 hy with hy | hy
  · exact h.2 y hy
  · rw [List.mem_singleton] at hy
    subst hy
    exact he
theorem sAddEntry_v (l : List Note) (s : Int) (v : List Int) (h : SmR l) (hl : l.length ≤ 1000) (hv : Sm v) : S_sAddEntry l s v = some (addEntry l s v) := by
  have hv' := hv
  unfold Sm at hv'
  have ho : SmR (l ++ [(⟨s, v, sealOf (lastSig l) s v⟩ : Note)]) := smR_app h hl hv
  unfold S_sAddEntry addEntry entryOf
  simp [sl27Copy_v l h, sLastSeal_v l h, sSealOf_v _ s v hv, sIsRecord_v _ ho, show v.length * 8 ≤ 140737488355328 by omega, show v.length ≤ 1152921504606846976 by omega, show (l.length + 1) * 40 ≤ 140737488355328 by omega, show l.length ≤ 1152921504606846975 by omega]
  cases isRecord (l ++ [(⟨s, v, sealOf (lastSig l) s v⟩ : Note)]) <;> simp
theorem iAddEntry_v (l : List Note) (s : Int) (v : List Int) (h : SmR l) (hl : l.length ≤ 1000) (hv : Sm v) : S_iAddEntry l s v = some (addEntry l s v) := by
  have ho : SmR (l ++ [(⟨s, v, sealOf (lastSig l) s v⟩ : Note)]) := smR_app h hl hv
  unfold S_iAddEntry addEntry entryOf
  simp [icloneRecord_v l h, slices_Clone_int_int_v v hv, iLastSeal_v l h, iSealOf_v _ s v hv, iIsRecord_v _ ho, show (l.length + 1) * 40 ≤ 140737488355328 by omega, show l.length ≤ 1152921504606846975 by omega]
  cases isRecord (l ++ [(⟨s, v, sealOf (lastSig l) s v⟩ : Note)]) <;> simp
def noteLights (l : List Note) (s : Int) (v : List Int) : List Note × Bool := match l.getLast? with
  | some e => if e.lights = v then (l, isRecord l && (decide (e.second < s) && inR s 0 1000000)) else addEntry l s v
  | none => addEntry l s v
theorem sNoteLights_v (l : List Note) (s : Int) (v : List Int) (h : SmR l) (hl : l.length ≤ 1000) (hv : Sm v) : S_sNoteLights l s v = some (noteLights l s v) := by
  unfold S_sNoteLights noteLights
  simp only [rws_note_ss, rws_i, len_note, geti_note_ss, sAddEntry_v l s v h hl hv, sl27Copy_v l h, sIsRecord_v l h, bnd_some]
  cases hg : l.getLast? with
  | none => have : l = [] := by simpa using hg
            subst this; rfl
  | some e =>
    obtain ⟨e1, e2⟩ := last_get hg
    have hk1 : W ((l.length : Int) - 1) = ((l.length - 1 : Nat) : Int) := by rw [W_id (by omega) (by omega)]; omega
    have he : Sm e.lights := h.2 e (mem_at e1)
    rw [hk1, getZ_at e1, show (((l.length : Nat) : Int) == 0) = false from beq_eq_false_iff_ne.2 (by omega), cnd_ff, getZ_at e1]
    simp only [sEqualInts_v _ v he, bnd_some, sl1In_v]
    by_cases c : e.lights = v
    · simp only [c, decide_true, Bool.not_true, cnd_ff]
      cases isRecord l <;> by_cases c2 : e.second < s <;> simp [c2, inR]
    · simp [c]
theorem iNoteLights_v (l : List Note) (s : Int) (v : List Int) (h : SmR l) (hl : l.length ≤ 1000) (hv : Sm v) : S_iNoteLights l s v = some (noteLights l s v) := by
  unfold S_iNoteLights noteLights
  simp only [rws_note_ss, rws_note_oo, rws_i, len_note, geti_note_ss, iAddEntry_v l s v h hl hv, icloneRecord_v l h, iIsRecord_v l h, bnd_some]
  cases hg : l.getLast? with
  | none => have : l = [] := by simpa using hg
            subst this; rfl
  | some e =>
    obtain ⟨e1, e2⟩ := last_get hg
    have hk1 : W ((l.length : Int) - 1) = ((l.length - 1 : Nat) : Int) := by rw [W_id (by omega) (by omega)]; omega
    have he : Sm e.lights := h.2 e (mem_at e1)
    rw [hk1, getZ_at e1, show (((l.length : Nat) : Int) == 0) = false from beq_eq_false_iff_ne.2 (by omega), cnd_ff, getZ_at e1]
    simp only [slices_Equal_int_int_v _ v he, bnd_some, iInRange_v]
    by_cases c : e.lights = v
    · simp only [c, decide_true, Bool.not_true, cnd_ff]
      cases isRecord l <;> by_cases c2 : e.second < s <;> simp [c2, inR]
    · simp [c]
theorem addEntry_sm {l : List Note} {s : Int} {v : List Int} (h : SmR l) (hl : l.length ≤ 1000) (hv : Sm v) : SmR (addEntry l s v).1 := by
  unfold addEntry
  split
  · exact smR_app h hl hv
  · exact h
theorem noteLights_sm {l : List Note} {s : Int} {v : List Int} (h : SmR l) (hl : l.length ≤ 1000) (hv : Sm v) : SmR (noteLights l s v).1 := by
  unfold noteLights
  split
  · split
    · exact h
    · exact addEntry_sm h hl hv
  · exact addEntry_sm h hl hv
/-- the record without what it says of the last second -/
def cutLast (t : Town) : List Note := match t.record.getLast? with
  | some e => if e.second = t.now then t.record.dropLast else t.record
  | none => t.record
def note (t : Town) : Town :=
  if (noteLights (cutLast t) t.now (lightsNow t)).2 = false ∧ (cutLast t).length = 60 then { t with record := (noteLights [] t.now (lightsNow t)).1, books := t.books + 1 }
  else { t with record := (noteLights (cutLast t) t.now (lightsNow t)).1 }
theorem smR_nil : SmR [] := ⟨by unfold Sm; simp, fun y hy => by cases hy⟩
theorem smR_cut {t : Town} (h : SmR t.record) : SmR (cutLast t) := by
  have h1 := h.1
  unfold Sm at h1
  unfold cutLast
  split
  · split
    · refine ⟨by unfold Sm; simp; omega, fun y hy => h.2 y ((List.dropLast_sublist _).subset hy)⟩
    · exact h
  · exact h
theorem cut_len (t : Town) : (cutLast t).length ≤ t.record.length := by
  unfold cutLast
  split
  · split
    · simp
    · exact Nat.le_refl _
  · exact Nat.le_refl _
theorem lightsNow_sm (x : Town) (h : SmTown x) : Sm (lightsNow x) := by
  have h0 := h.1
  unfold Sm lightsNow lightsOf at *
  split
  · split
    · simpa using h0
    · simp
  · simpa using h0
theorem note_sm {t : Town} (h : SmTown t) (hl : t.record.length ≤ 1000) : SmTown (note t) := by
  have hv := lightsNow_sm t h
  have hc := cut_len t
  obtain ⟨h0, h1, h2, h3, h4⟩ := h
  unfold note
  split
  · exact ⟨h0, h1, h2, h3, noteLights_sm smR_nil (by simp) hv⟩
  · exact ⟨h0, h1, h2, h3, noteLights_sm (smR_cut h4) (by omega) hv⟩
theorem take_dropLast {α : Type} (l : List α) : l.take (l.length - 1) = l.dropLast := List.dropLast_eq_take.symm
end Go.Sh
