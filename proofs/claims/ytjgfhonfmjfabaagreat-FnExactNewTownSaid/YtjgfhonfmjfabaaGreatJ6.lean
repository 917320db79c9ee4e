/- NewTown. -/
import Derived.Test.YtjgfhonfmjfabaaGreatQN
set_option linter.all false
namespace Go.Sh
open Go.Fx
def coverStep (l : List Path) (c : List (List Int)) (p : Path) : List (List Int) := if cov c p.id = true then c else c ++ [addToStage l [p.id]]
def cover (l : List Path) : List (List Int) := if arePaths l = true then l.foldl (coverStep l) [] else []
theorem has_putI (a : List Int) (n x : Int) : has (putI a n) x = (has a x || n == x) := by
  unfold putI
  split
  · rename_i h
    have hm : n ∈ a := List.mem_of_getElem? h
    by_cases c : n = x
    · subst c
      have : has a n = true := by unfold has; exact List.any_eq_true.2 ⟨n, hm, by simp⟩
      rw [this]; rfl
    · rw [show (n == x) = false from beq_eq_false_iff_ne.2 c, Bool.or_false]
  · unfold ins has
    have e : a.any (fun y => y == x) = ((a.take (low a n)).any (fun y => y == x) || (a.drop (low a n)).any fun y => y == x) := by
      rw [← List.any_append, List.take_append_drop]
    rw [e]
    simp only [List.any_append, List.any_cons, List.any_nil, Bool.or_false]
    cases (a.take (low a n)).any (fun y => y == x) <;> cases (a.drop (low a n)).any (fun y => y == x) <;> cases (n == x) <;> rfl
theorem putI_len (a : List Int) (n : Int) : (putI a n).length ≤ a.length + 1 := by
  unfold putI
  split
  · omega
  · rw [ins_len]; exact Nat.le_refl _
theorem stage_len (l : List Path) (p : Int) : (addToStage l [p]).length ≤ 20 := by
  unfold addToStage
  split
  · rename_i h; exact together_len (fold_together h)
  · simp
theorem fold_has (s : List Int) : ∀ (a : List Int) (x : Int), has (s.foldl putI a) x = (has a x || has s x) := by
  induction s with
  | nil => intro a x; simp [has]
  | cons y s ih =>
    intro a x
    rw [List.foldl_cons, ih, has_putI]
    unfold has
    rw [List.any_cons]
    cases a.any (fun z => z == x) <;> cases (y == x) <;> simp
theorem fold_len (s : List Int) : ∀ (a : List Int), (s.foldl putI a).length ≤ a.length + s.length := by
  induction s with
  | nil => intro a; simp
  | cons y s ih =>
    intro a
    rw [List.foldl_cons, List.length_cons]
    have := ih (putI a y)
    have := putI_len a y
    omega
theorem are_len {l : List Path} (h : arePaths l = true) : l.length ≤ 12 := by
  unfold arePaths at h
  rw [Bool.and_eq_true] at h
  exact of_decide_eq_true h.1
theorem appe_ilo {o p q : Own} (h0 : okO o p = true) (h1 : okO o q = true) (l : List (List Int)) (a : List Int) {β : Type} (K : List (List Int) → Option β) :
    rws (rOne (rX o 1 iR)) (l.map (rOne (rX p 1 iR)).enc ++ [[.slc q 1 (a.map iR.enc)]]) K = K (l ++ [a]) :=
  (rws_app (rOne (rX o 1 iR)) _ _ K).trans ((rws_il h0 l _).trans (rws_il h1 [a] fun l' => K (l ++ l')))
theorem iCoverOf_v (l : List Path) (h : Sm l) : S_iCoverOf l = some (cover l) := by
  unfold S_iCoverOf cover
  simp only [rws_path, rws_il_so, rws_il_oo, len_path, len_il, geti_path, iArePaths_v l h, bnd_some]
  cases ha : arePaths l with
  | false => simp
  | true =>
  have hl := are_len ha
  simp only [Bool.not_true, cnd_ff, if_true]
  refine (iter_listJ l (by omega) (fun k (c : List (List Int)) => (l, c, l, (l.length : Int), (k : Int))) [] (fun k c => c.length ≤ k ∧ ∀ y ∈ c, Sm y) ⟨Nat.le_refl _, fun y hy => by cases hy⟩ (fun r _ c => some (r.foldl (coverStep l) c)) rfl ?_ ?_).trans rfl
  · intro rec c hJ
    rw [show decide (((l.length : Nat) : Int) < ((l.length : Nat) : Int)) = false from decide_eq_false (by omega), cnd_ff]
    rfl
  · intro rec k p c hJ hx hk hr
    simp only [Int.natCast_succ] at hr
    have hS : SmS c := ⟨by unfold Sm; omega, hJ.2⟩
    simp only [show decide (((k : Nat) : Int) < ((l.length : Nat) : Int)) = true from decide_eq_true (by omega), cnd_tt, getZ_at hx, iisCovered_v c _ hS, bnd_some, iAddToStage_v l _ h (sm_one _), W_n1 (show k ≤ 9223372036854775806 by omega), List.foldl_cons]
    cases hc : cov c p.id with
    | true =>
      have e : coverStep l c p = c := by unfold coverStep; rw [if_pos hc]
      rw [e]
      simpa using hr c ⟨by omega, hJ.2⟩
    | false =>
      have e : coverStep l c p = c ++ [addToStage l [p.id]] := by unfold coverStep; rw [if_neg (by rw [hc]; simp)]
      have hr' := hr (c ++ [addToStage l [p.id]]) ⟨by simp; omega, fun y hy => by
        rcases List.mem_append.1 hy with hy | hy
        · exact hJ.2 y hy
        · rw [List.mem_singleton.1 hy]; exact addToStage_sm (sm_one _)⟩
      rw [e, ← hr']
      simp only [Bool.not_false, cnd_tt]
      rw [ifA_pos (by simp; omega)]
      simp only [appe_ilo (o := .own) (p := .own) (q := .own) rfl rfl]
theorem sCoverOf_v (l : List Path) (h : Sm l) : S_sCoverOf l = some (cover l) := by
  have hl' := h
  unfold Sm at hl'
  unfold S_sCoverOf cover
  simp only [rws_path, rws_i, rws_il_ss, len_path, len_i, len_il, geti_path, geti_i, sArePaths_v l h, bnd_some]
  refine (iter_listJ l (by omega) (fun k (c : List (List Int) × List Int) => (l, c.1, c.2, (k : Int))) ([], []) (fun k c => (arePaths l = true → c.1.length ≤ k ∧ c.2.length ≤ 20 * k ∧ ∀ x, has c.2 x = cov c.1 x) ∧ (arePaths l = false → c.1 = [])) ⟨fun _ => ⟨Nat.le_refl _, Nat.le_refl _, fun x => rfl⟩, fun _ => rfl⟩ (fun r _ c => some (if arePaths l = true then r.foldl (coverStep l) c.1 else [])) rfl ?_ ?_).trans rfl
  · rintro rec ⟨c, d⟩ hJ
    rw [show decide (((l.length : Nat) : Int) < ((l.length : Nat) : Int)) = false from decide_eq_false (by omega), cnd_ff]
    cases ha : arePaths l with
    | true => rfl
    | false => rw [hJ.2 ha]; rfl
  · rintro rec k p ⟨c, d⟩ hJ hx hk hr
    simp only [Int.natCast_succ] at hr
    simp only [show decide (((k : Nat) : Int) < ((l.length : Nat) : Int)) = true from decide_eq_true (by omega), cnd_tt, sArePaths_v l h, bnd_some, W_n1 (show k ≤ 9223372036854775806 by omega)]
    cases ha : arePaths l with
    | false => simp [show c = [] from hJ.2 ha]
    | true =>
    have hl := are_len ha
    obtain ⟨j1, j2, j3⟩ := hJ.1 ha
    simp only at j1 j2 j3
    have hd : Sm d := by unfold Sm; omega
    simp only [cnd_tt, getZ_at hx, sl6Has_v d _ hd, bnd_some, j3, sAddToStage_v l _ h (sm_one _), if_true, List.foldl_cons]
    simp only [ha, if_true] at hr
    cases hc : cov c p.id with
    | true =>
      have e : coverStep l c p = c := by unfold coverStep; rw [if_pos hc]
      rw [e, cnd_tt]
      exact hr (c, d) ⟨fun _ => ⟨Nat.le_succ_of_le j1, by show d.length ≤ 20 * (k + 1); omega, j3⟩, fun h => by cases h⟩
    | false =>
      have e : coverStep l c p = c ++ [addToStage l [p.id]] := by unfold coverStep; rw [if_neg (by rw [hc]; simp)]
      have hs := stage_len l p.id
      have hr' := hr (c ++ [addToStage l [p.id]], (addToStage l [p.id]).foldl putI d) ⟨fun _ => ⟨by simp; omega, by
        have := fold_len (addToStage l [p.id]) d
        simp only
        omega, fun x => by
        simp only
        rw [fold_has, j3]
        unfold cov
        rw [List.any_append]
        simp⟩, fun h => by cases h⟩
      rw [e, cnd_ff]
      rw [ifA_pos (by simp; omega)]
      simp only [appe_ilo (o := .shr) (p := .shr) (q := .shr) rfl rfl]
      generalize hst : addToStage l [p.id] = st at hs hr' ⊢
      refine (iter_listJ st (by omega) (fun m (a : List Int) => (l, c ++ [st], a, (k : Int), st, (m : Int))) d (fun m a => a.length ≤ 240 + m) (by omega) (fun r _ a => rec (l, c ++ [st], r.foldl putI a, (k : Int) + 1)) rfl ?_ ?_).trans hr'
      · intro rec2 a ha2
        rw [show decide (((st.length : Nat) : Int) < ((st.length : Nat) : Int)) = false from decide_eq_false (by omega), cnd_ff]
        simp [W_n1 (show k ≤ 9223372036854775806 by omega)]
      · intro rec2 m y a ha2 hy hm hr2
        simp only [Int.natCast_succ] at hr2
        have hsa : Sm a := by unfold Sm; omega
        have := putI_len a y
        simp only [show decide (((m : Nat) : Int) < ((st.length : Nat) : Int)) = true from decide_eq_true (by omega), cnd_tt, getZ_at hy, sl6Put_v a y hsa, bnd_some, W_n1 (show m ≤ 9223372036854775806 by omega), List.foldl_cons]
        exact hr2 (putI a y) (by omega)
abbrev noTown : Town := ⟨[], (⟨[], 0, [], 0⟩ : Control), [], (⟨0, 0⟩ : Prio), [], false, [], 0, 0⟩
def town0 (l : List Path) (s : List Int) : Town := ⟨l, ⟨s, 0, [], 0⟩, [], ⟨0, 0⟩, [], true, [], 0, 0⟩
def town1 (l : List Path) (s : List Int) : Town := ⟨l, ⟨s, 0, [], 0⟩, [], ⟨0, 0⟩, [], true, (addEntry [] 0 (lightsOf l ⟨s, 0, [], 0⟩)).1, 0, 0⟩
def newTown (l : List Path) : Town × Bool := match cover l with
  | [] => (noTown, false)
  | s :: _ => if isTown (town1 l s) = true then (town1 l s, true) else (noTown, false)
theorem cover_sm {l : List Path} {s : List Int} {r : List (List Int)} (h : cover l = s :: r) : Sm s := by
  have main : ∀ (t : List Path) (c : List (List Int)), (∀ y ∈ c, Sm y) → ∀ y ∈ t.foldl (coverStep l) c, Sm y := by
    intro t
    induction t with
    | nil => exact fun c hc => hc
    | cons p t ih =>
      intro c hc
      rw [List.foldl_cons]
      refine ih _ ?_
      unfold coverStep
      split
      · exact hc
      · intro y hy
        rcases List.mem_append.1 hy with hy | hy
        · exact hc y hy
        · rw [List.mem_singleton.1 hy]; exact addToStage_sm (sm_one _)
  unfold cover at h
  split at h
  · exact main l [] (fun y hy => by cases hy) s (by rw [h]; exact List.mem_cons_self ..)
  · cases h
theorem town0_sm {l : List Path} {s : List Int} (h : Sm l) (hs : Sm s) : SmTown (town0 l s) := ⟨h, ⟨hs, sm_nil⟩, by unfold Sm; simp [town0], by unfold Sm; simp [town0], smR_nil⟩
theorem lights_sm (l : List Path) (x : Control) (h : Sm l) : Sm (lightsOf l x) := by
  unfold Sm at h
  unfold Sm lightsOf
  split
  · rw [List.length_map]; exact h
  · simp
theorem town1_sm {l : List Path} {s : List Int} (h : Sm l) (hs : Sm s) : SmTown (town1 l s) := by
  obtain ⟨a, b, c, d, _⟩ := town0_sm h hs
  exact ⟨a, b, c, d, addEntry_sm smR_nil (by simp) (lights_sm l _ h)⟩
theorem newTown_sm {l : List Path} (h : Sm l) : SmTown (newTown l).1 := by
  have h0 : SmTown noTown := ⟨sm0, ⟨sm_nil, sm_nil⟩, sm0, sm0, smR_nil⟩
  unfold newTown
  split
  · exact h0
  · rename_i s r hc
    split
    · exact town1_sm h (cover_sm hc)
    · exact h0
where sm0 {α : Type} : Sm ([] : List α) := by unfold Sm; simp
theorem sNewTown_v (l : List Path) (h : Sm l) : S_sNewTown l = some (newTown l) := by
  unfold S_sNewTown newTown
  simp only [rws_path, rws_i, rws_il_ss, geti_il_ss, len_il, len0, rws_want, rws_lamp, rws_note_ss, eta_Control, eta_Town, sCoverOf_v l h, bnd_some]
  cases hc : cover l with
  | nil => simp
  | cons s r =>
    have hs := cover_sm hc
    have e := sl33Copy_v _ (town0_sm h hs)
    have e1 := sIsTown_v _ (town1_sm h hs)
    unfold town1 at e1
    unfold town0 at e
    simp only [List.isEmpty_cons, cnd_ff, getZ_zero, e, bnd_some, sLightsOf_v l ⟨s, 0, [], 0⟩ h ⟨hs, sm_nil⟩, sAddEntry_v [] 0 _ smR_nil (by simp) (lights_sm l _ h), rws_note_ss]
    rw [e1]
    unfold town1
    generalize isTown _ = b
    cases b <;> simp
theorem iNewTown_v (l : List Path) (h : Sm l) : S_iNewTown l = some (newTown l) := by
  unfold S_iNewTown newTown joinA
  simp only [rws_path, rws_i, rws_il_ss, rws_il_so, rws_il_oo, geti_il_ss, geti_il_so, geti_il_oo, len_il, len0, rws_note_ss, rws_note_so, rws_note_oo, rws_want, rws_lamp, eta_Control, eta_Town, iCoverOf_v l h, bnd_some, clone_path l h, bothK_self]
  cases hc : cover l with
  | nil => simp
  | cons s r =>
    have hs := cover_sm hc
    have e1 := iIsTown_v _ (town1_sm h hs)
    unfold town1 at e1
    simp only [List.isEmpty_cons, cnd_ff, getZ_zero, bnd_some, bothK_self, iLightsOf_v l ⟨s, 0, [], 0⟩ h ⟨hs, sm_nil⟩, iAddEntry_v [] 0 _ smR_nil (by simp) (lights_sm l _ h), rws_note_so, rws_note_oo]
    rw [e1]
    unfold town1
    generalize isTown _ = b
    cases b <;> simp
theorem lFnExactNewTown_v (l : List Path) (h : l.length ≤ maxLen ∧ ∀ y ∈ l, OkPath y) : S_lFnExactNewTown l = some true := by
  obtain ⟨r, e, d⟩ := lszPathS_v l h 1048576 (by decide) (by decide)
  unfold S_lFnExactNewTown
  simp only [rws_path, rws_i, rws_want, rws_lamp, rws_note_ss, eta_Control, eta_Town]
  rcases d with d | ⟨_, _, hs⟩
  · simp [e, d]
  · have hg := newTown_sm hs
    obtain ⟨n0, b0, c0, d0, f0, e0⟩ := lmarkPathS_m l hs 1 (by omega) (by omega)
    obtain ⟨n1, b1, c1, d1, f1, e1⟩ := lmarkTown_m _ hg 1 (by omega) (by omega)
    have e2 := lheldTown_h b1 1 n1 (by omega) (by omega) f1
    simp (disch := omega) [e, show ¬ r < 0 by omega, ltoPathS_v l hs, sNewTown_v l hs, iNewTown_v l hs, leqTown_v _ _ hg, leqPathS_v _ _ hs, e0, e1, e2, cnd_no, ifA_t, AV.okU, okUs, eta_Control, eta_Town]
end Go.Sh
