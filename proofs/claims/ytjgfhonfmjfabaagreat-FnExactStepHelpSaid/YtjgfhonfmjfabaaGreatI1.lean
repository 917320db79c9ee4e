/- Copies of towns, records. -/
import Derived.Test.YtjgfhonfmjfabaaGreatQ8
set_option linter.all false
namespace Go.Sh
open Go.Fx
theorem clone_path (l : List Path) (h : Sm l) : S_slices_Clone_loop_example_g03006_impl_Path_loop_example_g03006_impl_Path l = some l := by
  unfold Sm at h
  unfold S_slices_Clone_loop_example_g03006_impl_Path_loop_example_g03006_impl_Path
  rw [nilK_same]
  · simp only [len_path, clrs_path, rws_path, List.length_nil]; rw [ifA_pos (by omega)]
  · intro h0; have : l = [] := by cases l with | nil => rfl | cons a l => cases h0
    subst this; simp
theorem clone_want (l : List Want) (h : Sm l) : S_slices_Clone_loop_example_g03006_impl_Want_loop_example_g03006_impl_Want l = some l := by
  unfold Sm at h
  unfold S_slices_Clone_loop_example_g03006_impl_Want_loop_example_g03006_impl_Want
  rw [nilK_same]
  · simp only [len_want, clrs_want, rws_want, List.length_nil]; rw [ifA_pos (by omega)]
  · intro h0; have : l = [] := by cases l with | nil => rfl | cons a l => cases h0
    subst this; simp
theorem clone_lamp (l : List Lamp) (h : Sm l) : S_slices_Clone_loop_example_g03006_impl_Lamp_loop_example_g03006_impl_Lamp l = some l := by
  unfold Sm at h
  unfold S_slices_Clone_loop_example_g03006_impl_Lamp_loop_example_g03006_impl_Lamp
  rw [nilK_same]
  · simp only [len_lamp, clrs_lamp, rws_lamp, List.length_nil]; rw [ifA_pos (by omega)]
  · intro h0; have : l = [] := by cases l with | nil => rfl | cons a l => cases h0
    subst this; simp
theorem sl14Copy_v (x : Control) (h : SmControl x) : S_sl14Copy x = some x := by
  obtain ⟨h1, h2⟩ := h
  unfold Sm at h1 h2
  unfold S_sl14Copy
  simp only [len_i, List.length_nil, clrs_i, rws_i]
  rw [ifA_pos (by omega), ifA_pos (by omega)]
theorem icloneControl_v (x : Control) (h : SmControl x) : S_icloneControl x = some x := by
  obtain ⟨h1, h2⟩ := h
  unfold S_icloneControl
  simp [slices_Clone_int_int_v _ h1, slices_Clone_int_int_v _ h2]
theorem appe_note {o p q : Own} (h0 : okO o p = true) (h1 : okO o q = true) (l : List Note) (a : Int) (b : List Int) (c : Int) {β : Type} (K : List Note → Option β) :
    rws (noteR o) (l.map (noteR p).enc ++ [[I a, .slc q 1 (b.map iR.enc), I c]]) K = K (l ++ [(⟨a, b, c⟩ : Note)]) :=
  (rws_app _ _ _ K).trans ((rws_note h0 l _).trans (row_note h1 a b c fun l' => K (l ++ l')))
@[simp] theorem appe_note_ss (l : List Note) (a : Int) (b : List Int) (c : Int) {β : Type} (K : List Note → Option β) : rws (noteR Own.shr) (l.map (noteR Own.shr).enc ++ [[I a, .slc Own.shr 1 (b.map iR.enc), I c]]) K = K (l ++ [(⟨a, b, c⟩ : Note)]) := appe_note (o := .shr) (p := .shr) (q := .shr) rfl rfl l a b c K
@[simp] theorem appe_note_so (l : List Note) (a : Int) (b : List Int) (c : Int) {β : Type} (K : List Note → Option β) : rws (noteR Own.shr) (l.map (noteR Own.shr).enc ++ [[I a, .slc Own.own 1 (b.map iR.enc), I c]]) K = K (l ++ [(⟨a, b, c⟩ : Note)]) := appe_note (o := .shr) (p := .shr) (q := .own) rfl rfl l a b c K
@[simp] theorem appe_note_oo (l : List Note) (a : Int) (b : List Int) (c : Int) {β : Type} (K : List Note → Option β) : rws (noteR Own.own) (l.map (noteR Own.own).enc ++ [[I a, .slc Own.own 1 (b.map iR.enc), I c]]) K = K (l ++ [(⟨a, b, c⟩ : Note)]) := appe_note (o := .own) (p := .own) (q := .own) rfl rfl l a b c K
@[simp] theorem appe_note_soo (l : List Note) (a : Int) (b : List Int) (c : Int) {β : Type} (K : List Note → Option β) : rws (noteR Own.shr) (l.map (noteR Own.own).enc ++ [[I a, .slc Own.own 1 (b.map iR.enc), I c]]) K = K (l ++ [(⟨a, b, c⟩ : Note)]) := appe_note (o := .shr) (p := .own) (q := .own) rfl rfl l a b c K
abbrev SmR (l : List Note) : Prop := Sm l ∧ ∀ y ∈ l, SmNote y
theorem sl27Copy_v (l : List Note) (h : SmR l) : S_sl27Copy l = some l := by
  obtain ⟨h1, h2⟩ := h
  unfold Sm at h1
  unfold S_sl27Copy
  simp only [rws_note_ss, len_note]
  refine (mapG_loop l id (by omega) (fun k acc => (l, (acc, (k : Int)))) some rfl ?_ ?_).trans (by simp)
  · intro rec acc ha; simp
  · intro rec k x acc hx hk ha
    have hs := h2 x (mem_at hx)
    unfold SmNote Sm at hs
    simp [hk, getZ_at hx, W_n1 (show k ≤ 9223372036854775806 by omega), ha, show (k + 1) * 40 ≤ 140737488355328 by omega, show k ≤ 1152921504606846975 by omega, show x.lights.length * 8 ≤ 140737488355328 by omega, show x.lights.length ≤ 1152921504606846976 by omega]
theorem icloneRecord_v (l : List Note) (h : SmR l) : S_icloneRecord l = some l := by
  obtain ⟨h1, h2⟩ := h
  unfold Sm at h1
  unfold S_icloneRecord
  simp only [rws_note_ss, rws_note_oo, len_note]
  refine (mapG_loop l id (by omega) (fun k acc => (acc, l, (l.length : Int), (k : Int))) some rfl ?_ ?_).trans (by simp)
  · intro rec acc ha; simp
  · intro rec k x acc hx hk ha
    simp [hk, getZ_at hx, slices_Clone_int_int_v _ (h2 x (mem_at hx)), W_n1 (show k ≤ 9223372036854775806 by omega), ha, show (k + 1) * 40 ≤ 140737488355328 by omega, show k ≤ 1152921504606846975 by omega]
theorem sl33Copy_v (t : Town) (h : SmTown t) : S_sl33Copy t = some t := by
  obtain ⟨h0, h1, h2, h3, h4⟩ := h
  unfold S_sl33Copy
  simp only [rws_i, eta_Control, sl14Copy_v _ h1, sl27Copy_v _ h4, bnd_some, rws_note_ss, len_path, len_want, len_lamp, List.length_nil, clrs_path, clrs_want, clrs_lamp, rws_path, rws_want, rws_lamp, eta_Town]
  unfold Sm at h0 h2 h3
  rw [ifA_pos (by omega), ifA_pos (by omega), ifA_pos (by omega)]
theorem icloneTown_v (t : Town) (h : SmTown t) : S_icloneTown t = some t := by
  obtain ⟨h0, h1, h2, h3, h4⟩ := h
  unfold S_icloneTown
  simp only [clone_path _ h0, clone_want _ h2, clone_lamp _ h3, rws_i, eta_Control, icloneControl_v _ h1, bnd_some, rws_note_ss, rws_note_oo, rws_path, rws_want, rws_lamp, rws_i, icloneRecord_v _ h4, eta_Town]
end Go.Sh
