/- What a record tells. -/
import Derived.Test.YteaoohmablanhaaD1
set_option linter.all false
namespace Go.Sh
open Go.Fx
def goAt (s : Int) : List Note → Nat → Int → Int
  | [], _, a => a
  | x :: r, k, a => goAt s r (k + 1) (if x.second ≤ s then (k : Int) else a)
def entryAt (l : List Note) (s : Int) : Int := if isRecord l = true then goAt s l 0 (-1) else -1
theorem goAt_lt {s : Int} : ∀ (l : List Note) (k : Nat) (a : Int), goAt s l k a = a ∨ ∃ i, i < l.length ∧ goAt s l k a = ((k + i : Nat) : Int)
  | [], k, a => .inl rfl
  | x :: r, k, a => by
    rw [goAt]
    rcases goAt_lt (s := s) r (k + 1) (if x.second ≤ s then (k : Int) else a) with h | ⟨i, h1, h2⟩
    · rw [h]
      split
      · exact .inr ⟨0, by simp, by simp⟩
      · exact .inl rfl
    · exact .inr ⟨i + 1, by simp; omega, by rw [h2]; congr 1; omega⟩
theorem entryAt_cases (l : List Note) (s : Int) : entryAt l s = -1 ∨ ∃ (i : Nat) (x : Note), l[i]? = some x ∧ entryAt l s = (i : Int) ∧ isRecord l = true := by
  unfold entryAt
  cases hR : isRecord l with
  | false => exact .inl (by simp)
  | true =>
    simp only [if_true]
    rcases goAt_lt (s := s) l 0 (-1) with h | ⟨i, h1, h2⟩
    · exact .inl h
    · exact .inr ⟨i, l[i], List.getElem?_eq_getElem h1, by rw [h2]; simp, trivial⟩
theorem sl28At_v (l : List Note) (s : Int) (h : Sm l ∧ ∀ y ∈ l, SmNote y) : S_sl28At l s = some (entryAt l s) := by
  have h1 := h.1
  unfold Sm at h1
  unfold S_sl28At entryAt
  simp
  refine (iter_list0 l (by omega) (fun k a => (l, s, a, (k : Int))) (-1) (fun x k a => some (if isRecord l = true then goAt s x k a else a)) rfl ?_ ?_).trans rfl
  · intro rec a
    simp [goAt]
  · intro rec k x a hx hk hr
    simp only [Int.natCast_succ] at hr
    simp [hk, getZ_at hx, sIsRecord_v l h, W_n1 (show k ≤ 9223372036854775806 by omega), hr, goAt, cnd_if]
    cases isRecord l <;> simp
    by_cases c : x.second ≤ s <;> simp [c]
theorem ientryAt_v (l : List Note) (s : Int) (h : Sm l ∧ ∀ y ∈ l, SmNote y) : S_ientryAt l s = some (entryAt l s) := by
  have h1 := h.1
  unfold Sm at h1
  unfold S_ientryAt entryAt
  simp [iIsRecord_v l h]
  cases isRecord l with
  | false => rfl
  | true =>
  simp
  refine (iter_list0 l (by omega) (fun k a => (s, a, l, (l.length : Int), (k : Int))) (-1) (fun x k a => some (goAt s x k a)) rfl ?_ ?_).trans rfl
  · intro rec a
    simp [goAt]
  · intro rec k x a hx hk hr
    simp only [Int.natCast_succ] at hr
    simp [hk, getZ_at hx, W_n1 (show k ≤ 9223372036854775806 by omega), hr, goAt, cnd_if]
    by_cases c : x.second ≤ s <;> simp [c]
theorem nilK_same {β : Type} (xs : List (List AV)) (x y : Option β) (h : xs = [] → x = y) : nilK xs x y = y := by
  unfold nilK
  split
  · unfold bothK
    have := h rfl
    rw [if_pos this, this]
  · rfl
theorem slices_Clone_int_int_v (l : List Int) (h : Sm l) : S_slices_Clone_int_int l = some l := by
  unfold Sm at h
  unfold S_slices_Clone_int_int
  have e : ifA (((((List.length ([] : List (List AV))) + (List.length (l.map iR.enc))) * 8) ≤ 140737488355328) ∧ (((List.length ([] : List (List AV))) + (List.length (l.map iR.enc))) ≤ 1152921504606846976)) (rws iR (List.map clrs (l.map iR.enc)) (fun (l1 : (List Int)) => (some l1))) = some l := by
    rw [ifA_pos (by simp; omega), clrs_i, rws_i]
  rw [e]
  refine nilK_same _ _ _ fun h0 => ?_
  have : l = [] := by cases l with | nil => rfl | cons a l => cases h0
  rw [this]
def entry (l : List Note) (s : Int) : Option Note := if entryAt l s < 0 then none else l[(entryAt l s).toNat]?
def shownAt (l : List Note) (s : Int) : List Int × Bool := match entry l s with | some e => (e.lights, true) | none => ([], false)
theorem entry_cases (l : List Note) (s : Int) : (entry l s = none ∧ entryAt l s = -1) ∨ ∃ (i : Nat) (x : Note), l[i]? = some x ∧ entryAt l s = (i : Int) ∧ entry l s = some x ∧ isRecord l = true := by
  unfold entry
  rcases entryAt_cases l s with h | ⟨i, x, h1, h2, h3⟩
  · rw [h]; exact .inl ⟨rfl, rfl⟩
  · rw [h2]
    exact .inr ⟨i, x, h1, rfl, by rw [if_neg (by omega), Int.toNat_natCast, h1], h3⟩
theorem sShownAt_v (l : List Note) (s : Int) (h : Sm l ∧ ∀ y ∈ l, SmNote y) : S_sShownAt l s = some (shownAt l s) := by
  unfold S_sShownAt shownAt
  simp only [rws_note_ss, sl28At_v l s h, bnd_some, geti_note_ss]
  rcases entry_cases l s with ⟨h1, h2⟩ | ⟨i, x, h1, h2, h3, _⟩
  · simp [h1, h2]
  · have hx := h.2 x (mem_at h1)
    unfold SmNote Sm at hx
    simp only [h2, h3, show ¬ ((i : Int) < 0) by omega, decide_false, cnd_ff, getZ_at h1, len_i, clrs_i, rws_i]
    rw [ifA_pos (by simp; omega)]
theorem iShownAt_v (l : List Note) (s : Int) (h : Sm l ∧ ∀ y ∈ l, SmNote y) : S_iShownAt l s = some (shownAt l s) := by
  unfold S_iShownAt shownAt
  simp only [rws_note_ss, ientryAt_v l s h, bnd_some, geti_note_ss, rws_i]
  rcases entry_cases l s with ⟨h1, h2⟩ | ⟨i, x, h1, h2, h3, _⟩
  · simp [h1, h2]
  · have hx := h.2 x (mem_at h1)
    simp only [h2, h3, show ¬ ((i : Int) < 0) by omega, decide_false, cnd_ff, getZ_at h1, slices_Clone_int_int_v _ hx, bnd_some]
def recordTrue (t : Town) : Bool := (shownAt t.record t.now).2 && decide ((shownAt t.record t.now).1 = lightsNow t)
theorem shownAt_sm {l : List Note} (s : Int) (h : Sm l ∧ ∀ y ∈ l, SmNote y) : Sm (shownAt l s).1 := by
  unfold shownAt
  rcases entry_cases l s with ⟨h1, h2⟩ | ⟨i, x, h1, h2, h3, _⟩
  · rw [h1]; unfold Sm; simp
  · rw [h3]; exact h.2 x (mem_at h1)
theorem sIsRecordTrue_v (t : Town) (h : SmTown t) : S_sIsRecordTrue t = some (recordTrue t) := by
  have h4 := h.2.2.2.2
  unfold S_sIsRecordTrue recordTrue
  simp only [rws_path, rws_i, rws_want, rws_lamp, rws_note_ss, eta_Control, eta_Town, sShownAt_v _ _ h4, sLightsNow_v t h, sEqualInts_v _ _ (shownAt_sm t.now h4), bnd_some]
  cases (shownAt t.record t.now).2 <;> simp
theorem iIsRecordTrue_v (t : Town) (h : SmTown t) : S_iIsRecordTrue t = some (recordTrue t) := by
  have h4 := h.2.2.2.2
  unfold S_iIsRecordTrue recordTrue
  simp only [rws_path, rws_i, rws_want, rws_lamp, rws_note_ss, eta_Control, eta_Town, iShownAt_v _ _ h4, iLightsNow_v t h, slices_Equal_int_int_v _ _ (shownAt_sm t.now h4), bnd_some]
  cases (shownAt t.record t.now).2 <;> simp
theorem lFnExactIsRecordTrue_v (a : Town) (h : OkTown a) : S_lFnExactIsRecordTrue a = some true := by
  obtain ⟨r, e, d⟩ := lszTown_v a h 1048576 (by decide) (by decide)
  unfold S_lFnExactIsRecordTrue
  simp only [rws_note_ss, eta_Control, eta_Town]
  rcases d with d | ⟨_, _, hs⟩
  · simp [e, d]
  · simp [e, show ¬ r < 0 by omega, ltoTown_v a hs, sIsRecordTrue_v a hs, iIsRecordTrue_v a hs, leqTown_v a a hs, cnd_if]
end Go.Sh
