/- The lights of a crossing are safe. -/
import Derived.Test.YtmcfebdgbcaimaaC4
set_option linter.all false
namespace Go.Sh
open Go.Fx
def isControl (l : List Path) (x : Control) : Bool :=
  !x.stage.isEmpty && together l x.stage && together l x.next && inR x.since 0 1000000 && (if x.next = [] then x.left == 0 else inR x.left 1 (clearBetween l x.stage x.next))
theorem len0 {α : Type} (l : List α) : (((l.length : Nat) : Int) == 0) = l.isEmpty := by
  cases l with
  | nil => rfl
  | cons x l => simp; omega
theorem sIsControl_v (l : List Path) (x : Control) (h : Sm l) (hx : SmControl x) : S_sIsControl l x = some (isControl l x) := by
  obtain ⟨h1, h2⟩ := hx
  unfold S_sIsControl isControl
  simp only [rws_path, rws_i, len_i, len0, sIsTogether_v l _ h h1, sIsTogether_v l _ h h2, sClearBetween_v l _ _ h h1 h2, sl1In_r, bnd_some]
  cases x.stage.isEmpty <;> cases together l x.stage <;> cases together l x.next <;> cases inR x.since 0 1000000 <;> cases hn : x.next <;> simp
theorem iIsControl_v (l : List Path) (x : Control) (h : Sm l) (hx : SmControl x) : S_iIsControl l x = some (isControl l x) := by
  obtain ⟨h1, h2⟩ := hx
  unfold S_iIsControl isControl
  simp only [rws_path, rws_i, len_i, len0, iIsTogether_v l _ h h1, iIsTogether_v l _ h h2, iClearBetween_v l _ _ h h1 h2, iInRange_r, bnd_some]
  cases x.stage.isEmpty <;> cases together l x.stage <;> cases together l x.next <;> cases inR x.since 0 1000000 <;> cases hn : x.next <;> simp
/-- a list of ints that grows one by one -/
theorem map_loop {α β V : Type} (l : List α) (f : α → Int) (hl : l.length ≤ 1099511627776) (st : Nat → List Int → V) (K : List Int → Option β) {F : (V → Option β) → V → Option β} {v : V} (hv : v = st 0 [])
    (h0 : ∀ rec acc, acc.length = l.length → F rec (st l.length acc) = K acc)
    (h1 : ∀ rec k x acc, l[k]? = some x → k < l.length → acc.length = k → F rec (st k acc) = rec (st (k + 1) (acc ++ [f x]))) : iter F NN v = K (l.map f) := by
  refine (iter_listJ l (by omega) st [] (fun k acc => acc.length = k) rfl (fun s _ acc => K (acc ++ s.map f)) hv ?_ ?_).trans (by simp)
  · intro rec acc h
    rw [h0 rec acc h]
    simp
  · intro rec k x acc h hx hk hr
    rw [h1 rec k x acc hx hk h, hr _ (by simp [h])]
    simp
def lightAt (x : Control) (id : Int) : Int := if has x.stage id then (if x.next.isEmpty = false ∧ has x.next id = false then 2 else 1) else 0
def lightsOf (l : List Path) (x : Control) : List Int := if isControl l x then l.map (fun p => lightAt x p.id) else []
theorem len1 {α : Type} (l : List α) : decide (((l.length : Nat) : Int) > 0) = !l.isEmpty := by
  cases l with
  | nil => rfl
  | cons x l => simp
theorem iLightsOf_v (l : List Path) (x : Control) (h : Sm l) (hx : SmControl x) : S_iLightsOf l x = some (lightsOf l x) := by
  have hx' := hx
  obtain ⟨h1, h2⟩ := hx
  have hl := h
  unfold Sm at hl
  unfold S_iLightsOf lightsOf
  simp only [rws_path, rws_i, len_path, eta_Control, iIsControl_v l x h hx', bnd_some]
  cases isControl l x with
  | false => simp
  | true =>
  simp only [Bool.not_true, cnd_ff, if_true]
  refine map_loop l (fun p => lightAt x p.id) (by omega) (fun k acc => ((acc, l, (l.length : Int), (k : Int)), x)) some rfl ?_ ?_
  · intro rec acc ha
    simp
  · intro rec k p acc hp hk ha
    simp [hk, getZ_at hp, slices_Contains_int_int_v _ _ h1, slices_Contains_int_int_v _ _ h2, W_n1 (show k ≤ 9223372036854775806 by omega), ha, show (k + 1) * 8 ≤ 140737488355328 by omega, show k ≤ 1152921504606846975 by omega, len1]
    unfold lightAt
    cases has x.stage p.id with
    | false => simp
    | true =>
      cases hn : x.next with
      | nil => simp
      | cons y r =>
        simp [cnd_if]
        cases has (y :: r) p.id <;> simp
theorem sLightsOf_v (l : List Path) (x : Control) (h : Sm l) (hx : SmControl x) : S_sLightsOf l x = some (lightsOf l x) := by
  have hx' := hx
  obtain ⟨h1, h2⟩ := hx
  have hl := h
  unfold Sm at hl
  unfold S_sLightsOf lightsOf
  simp only [rws_path, rws_i, len_path, eta_Control]
  cases hc : isControl l x with
  | false =>
    refine (iter_list0 l (by omega) (fun k (_ : Unit) => ((l, ([] : List Int), (k : Int)), x)) () (fun _ _ _ => some []) rfl ?_ ?_).trans rfl
    · intro rec _
      simp
    · intro rec k p _ hp hk _
      simp [hk, sIsControl_v l x h hx', hc]
  | true =>
  simp only [if_true]
  refine map_loop l (fun p => lightAt x p.id) (by omega) (fun k acc => ((l, acc, (k : Int)), x)) some rfl ?_ ?_
  · intro rec acc ha
    simp
  · intro rec k p acc hp hk ha
    simp [hk, getZ_at hp, sIsControl_v l x h hx', hc, sl6Has_v _ _ h1, sl6Has_v _ _ h2, W_n1 (show k ≤ 9223372036854775806 by omega), ha, show (k + 1) * 8 ≤ 140737488355328 by omega, show k ≤ 1152921504606846975 by omega, len1]
    unfold lightAt
    cases has x.stage p.id with
    | false => simp
    | true =>
      cases hn : x.next with
      | nil => simp
      | cons y r =>
        simp [cnd_if]
        cases has (y :: r) p.id <;> simp
theorem iall_v (l : List Path) (n : Int) (h : Sm l) : S_iall l n = some (l.map fun _ => n) := by
  unfold Sm at h
  unfold S_iall
  simp only [rws_path, rws_i, len_path]
  refine map_loop l (fun _ => n) (by omega) (fun k acc => (n, acc, (l.length : Int), (k : Int))) some rfl ?_ ?_
  · intro rec acc ha
    simp
  · intro rec k p acc hp hk ha
    simp [hk, W_n1 (show k ≤ 9223372036854775806 by omega), ha, show (k + 1) * 8 ≤ 140737488355328 by omega, show k ≤ 1152921504606846975 by omega]
theorem sl33All_v (t : Town) (n : Int) (h : Sm t.paths) : S_sl33All t n = some (t.paths.map fun _ => n) := by
  unfold Sm at h
  unfold S_sl33All
  simp
  refine map_loop t.paths (fun _ => n) (by omega) (fun k acc => ((n, acc, (k : Int)), t)) some rfl ?_ ?_
  · intro rec acc ha
    simp
  · intro rec k p acc hp hk ha
    simp [hk, W_n1 (show k ≤ 9223372036854775806 by omega), ha, show (k + 1) * 8 ≤ 140737488355328 by omega, show k ≤ 1152921504606846975 by omega]
end Go.Sh
