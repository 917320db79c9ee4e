/- The time that a change of stages takes. -/
import Derived.Test.YtmcfebdgbcaimaaC3
set_option linter.all false
namespace Go.Sh
open Go.Fx
@[simp] theorem rws_app_i' {β : Type} (l : List Int) (s : Int) (K : List Int → Option β) : rws iR (l.map iR.enc ++ [[I s]]) K = K (l ++ [s]) :=
  (congrArg (fun z => rws iR z K) (List.map_append (f := iR.enc) (l₁ := l) (l₂ := [s])).symm).trans (rws_enc iR (l ++ [s]) K)
@[simp] theorem bnd_id' {α : Type} (x : Option α) : bnd x (fun r => some r) = x := by cases x <;> rfl
/-- a list that takes what passes -/
theorem filter_loop {α β V : Type} (l : List α) (p : α → Bool) (hl : l.length ≤ 1099511627776) (st : Nat → List α → V) (K : List α → Option β) {F : (V → Option β) → V → Option β} {v : V} (hv : v = st 0 [])
    (h0 : ∀ rec acc, acc.length ≤ l.length → F rec (st l.length acc) = K acc)
    (h1 : ∀ rec k x acc, l[k]? = some x → k < l.length → acc.length ≤ k → F rec (st k acc) = rec (st (k + 1) (if p x = true then acc ++ [x] else acc))) : iter F NN v = K (l.filter p) := by
  refine (iter_listJ l (by omega) st [] (fun k acc => acc.length ≤ k) (Nat.le_refl _) (fun s _ acc => K (acc ++ s.filter p)) hv ?_ ?_).trans (by simp)
  · intro rec acc h
    rw [h0 rec acc h]
    simp
  · intro rec k x acc h hx hk hr
    rw [h1 rec k x acc hx hk h]
    cases hp : p x with
    | true => rw [if_pos rfl, hr _ (by simp; omega), List.filter_cons_of_pos hp]; simp
    | false => rw [if_neg (by simp), hr _ (by omega), List.filter_cons_of_neg (by simp [hp])]
def closes (a b : List Int) : List Int := a.filter fun x => !has b x
theorem sCloses_v (a b : List Int) (h : Sm a) (hb : Sm b) : S_sCloses a b = some (closes a b) := by
  have h' := h
  unfold Sm at h'
  unfold S_sCloses closes
  simp
  refine (filter_loop a (fun x => !has b x) (by omega) (fun k acc => (a, b, acc, (k : Int))) some rfl ?_ ?_)
  · intro rec acc ha; simp
  · intro rec k x acc hx hk ha
    simp [hk, getZ_at hx, sl6Has_v b _ hb, W_n1 (show k ≤ 9223372036854775806 by omega), show (acc.length + 1) * 8 ≤ 140737488355328 by omega, show acc.length ≤ 1152921504606846975 by omega]
    cases has b x <;> simp
theorem iCloses_v (a b : List Int) (h : Sm a) (hb : Sm b) : S_iCloses a b = some (closes a b) := by
  have h' := h
  unfold Sm at h'
  unfold S_iCloses S_isieve closes
  simp
  refine (filter_loop a (fun x => !has b x) (by omega) (fun k acc => (b, false, acc, a, (a.length : Int), (k : Int))) some rfl ?_ ?_)
  · intro rec acc ha; simp
  · intro rec k x acc hx hk ha
    simp [hk, getZ_at hx, slices_Contains_int_int_v b _ hb, W_n1 (show k ≤ 9223372036854775806 by omega), show (acc.length + 1) * 8 ≤ 140737488355328 by omega, show acc.length ≤ 1152921504606846975 by omega]
    cases has b x <;> simp
theorem goT_find {l : List Path} {ids : List Int} : ∀ {s : List Int} {k : Nat}, goT l ids k s = true → ∀ x ∈ s, ¬ findPath l x < 0
  | [], _, _ => fun x hx => by cases hx
  | y :: s, k, h => fun x hx => by
    simp only [goT, Bool.and_eq_true, Bool.not_eq_true', decide_eq_false_iff_not] at h
    rcases List.mem_cons.1 hx with rfl | hx
    · exact h.1.1.1
    · exact goT_find h.2 x hx
theorem together_find {l : List Path} {ids : List Int} (h : together l ids = true) : ∀ x ∈ ids, ¬ findPath l x < 0 := by
  simp only [together, Bool.and_eq_true] at h
  exact goT_find h.1
theorem closes_sub {a b : List Int} {x : Int} (h : x ∈ closes a b) : x ∈ a := (List.mem_filter.1 h).1
theorem closes_sm {a b : List Int} (h : Sm a) : Sm (closes a b) := Nat.le_trans (List.length_filter_le _ _) h
def most (n c : Int) : Int := if n < c then c else n
def stepC (l : List Path) (x : Int) (n y : Int) : Int := if conflict (pathAt l x) (pathAt l y) then most n (clearOf (pathAt l x)) else n
def clearBetween (l : List Path) (a b : List Int) : Int :=
  if together l a = true ∧ together l b = true then (closes a b).foldl (fun n x => (closes b a).foldl (stepC l x) n) 0 else 0
theorem iClearBetween_v (l : List Path) (a b : List Int) (h : Sm l) (ha : Sm a) (hb : Sm b) : S_iClearBetween l a b = some (clearBetween l a b) := by
  unfold S_iClearBetween clearBetween
  simp [iIsTogether_v l _ h ha, iIsTogether_v l _ h hb, iCloses_v _ _ ha hb, iCloses_v _ _ hb ha]
  cases t1 : together l a with
  | false => simp
  | true =>
  cases t2 : together l b with
  | false => simp
  | true =>
  simp
  have hA := closes_sm (b := b) ha
  have hB := closes_sm (b := a) hb
  unfold Sm at hA hB
  refine (iter_list0 (closes a b) (by omega) (fun k n => (l, a, b, n, closes a b, ((closes a b).length : Int), (k : Int))) 0 (fun s _ n => some (s.foldl (fun n x => (closes b a).foldl (stepC l x) n) n)) rfl ?_ ?_).trans rfl
  · intro rec n; simp
  · intro rec k x n hx hk hr
    simp only [Int.natCast_succ] at hr
    have hfx := together_find t1 x (closes_sub (mem_at hx))
    simp [hk, getZ_at hx, iCloses_v _ _ hb ha]
    refine (iter_list0 (closes b a) (by omega) (fun j n => (l, a, b, n, x, closes a b, ((closes a b).length : Int), (k : Int), closes b a, ((closes b a).length : Int), (j : Int))) n (fun s _ n => rec (l, a, b, s.foldl (stepC l x) n, closes a b, ((closes a b).length : Int), (k : Int) + 1)) rfl ?_ ?_).trans ?_
    · intro rec' n
      simp [W_n1 (show k ≤ 9223372036854775806 by omega)]
    · intro rec' j y n hy hj hr'
      simp only [Int.natCast_succ] at hr'
      have hfy := together_find t2 y (closes_sub (mem_at hy))
      simp [hj, getZ_at hy, iFindPath_v l _ h, getZ_find hfx, getZ_find hfy, iConflict_v, iClearOf_v, W_n1 (show j ≤ 9223372036854775806 by omega), cnd_if]
      cases hc : conflict (pathAt l x) (pathAt l y) <;> simp [stepC, most, hc, hr']
    · simp [hr]
theorem sClearBetween_v (l : List Path) (a b : List Int) (h : Sm l) (ha : Sm a) (hb : Sm b) : S_sClearBetween l a b = some (clearBetween l a b) := by
  unfold S_sClearBetween clearBetween
  simp [sCloses_v _ _ ha hb, sCloses_v _ _ hb ha]
  have hA := closes_sm (b := b) ha
  have hB := closes_sm (b := a) hb
  unfold Sm at hA hB
  refine (iter_list0 (closes a b) (by omega) (fun k n => (l, a, b, n, closes a b, closes b a, (k : Int))) 0 (fun s _ n => some (if together l a = true ∧ together l b = true then s.foldl (fun n x => (closes b a).foldl (stepC l x) n) n else n)) rfl ?_ ?_).trans rfl
  · intro rec n; simp
  · intro rec k x n hx hk hr
    simp only [Int.natCast_succ] at hr
    simp [hk, getZ_at hx, sIsTogether_v l _ h ha, sIsTogether_v l _ h hb]
    cases t1 : together l a with
    | false => simp
    | true =>
    cases t2 : together l b with
    | false => simp
    | true =>
    simp only [t1, t2, and_self, if_true] at hr
    simp
    have hfx := together_find t1 x (closes_sub (mem_at hx))
    refine (iter_list0 (closes b a) (by omega) (fun j n => (l, a, b, n, closes a b, closes b a, (k : Int), (j : Int))) n (fun s _ n => rec (l, a, b, s.foldl (stepC l x) n, closes a b, closes b a, (k : Int) + 1)) rfl ?_ ?_).trans ?_
    · intro rec' n
      simp [W_n1 (show k ≤ 9223372036854775806 by omega)]
    · intro rec' j y n hy hj hr'
      simp only [Int.natCast_succ] at hr'
      have hfy := together_find t2 y (closes_sub (mem_at hy))
      simp [hj, getZ_at hx, getZ_at hy, sFindPath_v l _ h, getZ_find hfx, getZ_find hfy, sConflict_v, sClearOf_v, sMax_v, W_n1 (show j ≤ 9223372036854775806 by omega), cnd_if]
      cases hc : conflict (pathAt l x) (pathAt l y) <;> simp [stepC, most, hc, hr']
    · simp [hr]
end Go.Sh
