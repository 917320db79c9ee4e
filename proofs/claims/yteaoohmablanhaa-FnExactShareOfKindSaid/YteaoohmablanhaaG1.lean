/- Plans: the least green, covers, what is a plan, how long it is. -/
import Derived.Test.YteaoohmablanhaaF1
set_option linter.all false
namespace Go.Sh
open Go.Fx
def walk (l : List Path) (x : Int) : Bool := !decide (findPath l x < 0) && (pathAt l x).kind == 2
def leastGreen (l : List Path) (ids : List Int) : Int := if ids.all (fun x => !walk l x) = true then 5 else 7
theorem sLeastGreen_v (l : List Path) (ids : List Int) (h : Sm l) (hi : Sm ids) : S_sLeastGreen l ids = some (leastGreen l ids) := by
  unfold Sm at hi
  unfold S_sLeastGreen leastGreen
  simp only [rws_path, rws_i, len_i]
  refine (all_loop ids (fun x => !walk l x) (by omega) (fun k => (l, ids, (k : Int))) (some 5) (some 7) rfl ?_ ?_).trans (by split <;> rfl)
  · intro rec; simp
  · intro rec k x hx hk
    simp [hk, getZ_at hx, W_n1 (show k ≤ 9223372036854775806 by omega), sFindPath_v l _ h, walk]
    by_cases c : findPath l x < 0
    · have : ¬ (0 ≤ findPath l x) := by omega
      simp [c, this, cnd_if]
    · have : 0 ≤ findPath l x := by omega
      simp [c, this, cnd_if, getZ_find c]
theorem iLeastGreen_v (l : List Path) (ids : List Int) (h : Sm l) (hi : Sm ids) : S_iLeastGreen l ids = some (leastGreen l ids) := by
  unfold Sm at hi
  unfold S_iLeastGreen leastGreen
  simp only [rws_path, rws_i, len_i]
  refine (all_loop ids (fun x => !walk l x) (by omega) (fun k => (l, ids, (ids.length : Int), (k : Int))) (some 5) (some 7) rfl ?_ ?_).trans (by split <;> rfl)
  · intro rec; simp
  · intro rec k x hx hk
    simp [hk, getZ_at hx, W_n1 (show k ≤ 9223372036854775806 by omega), iFindPath_v l _ h, walk]
    by_cases c : findPath l x < 0
    · have : ¬ (0 ≤ findPath l x) := by omega
      simp [c, this, cnd_if]
    · have : 0 ≤ findPath l x := by omega
      simp [c, this, cnd_if, getZ_find c]
def SmS (st : List (List Int)) : Prop := Sm st ∧ ∀ y ∈ st, Sm y
def cov (st : List (List Int)) (id : Int) : Bool := st.any fun s => has s id
def covers (l : List Path) (st : List (List Int)) : Bool := arePaths l && (st.all (together l) && l.all fun p => cov st p.id)
theorem iisCovered_v (st : List (List Int)) (id : Int) (h : SmS st) : S_iisCovered st id = some (cov st id) := by
  obtain ⟨h1, h2⟩ := h
  unfold Sm at h1
  unfold S_iisCovered S_slices_ContainsFunc_int_int S_slices_IndexFunc_int_int cov
  simp only [rws_il_ss, len_il, bnd_id']
  generalize hI : iter (_ : (List (List Int) × Int × Int × Int → Option Int) → _ → Option Int) NN _ = I
  have hI' : I = match st.findIdx? (fun s => has s id) with | some i => some (i : Int) | none => some (-1) := by
    rw [← hI]
    refine find_loop st (fun s => has s id) (by omega) (fun k => (st, id, (st.length : Int), (k : Int))) (fun i => some (i : Int)) (some (-1)) rfl ?_ ?_
    · intro rec; simp
    · intro rec k x hx hk
      simp [hk, getZ_at hx, W_n1 (show k ≤ 9223372036854775806 by omega), S_iisCovered_1, slices_Contains_int_int_v x _ (h2 x (List.mem_of_getElem? hx)), cnd_if]
  rw [hI', ← findIdx_some']
  cases st.findIdx? (fun s => has s id) <;> simp
theorem iCovers_v (l : List Path) (st : List (List Int)) (h : Sm l) (hs : SmS st) : S_iCovers l st = some (covers l st) := by
  have hs' := hs
  obtain ⟨h1, h2⟩ := hs
  unfold Sm at h1
  have hl := h
  unfold Sm at hl
  unfold S_iCovers covers
  simp only [rws_path, rws_il_ss, len_il, len_path, iArePaths_v l h, bnd_some]
  cases arePaths l with
  | false => simp
  | true =>
  simp only [Bool.not_true, cnd_ff]
  refine (all_loop st (together l) (by omega) (fun k => (l, st, st, (st.length : Int), (k : Int))) (some (l.all fun p => cov st p.id)) (some false) rfl ?_ ?_).trans (by cases st.all (together l) <;> rfl)
  · intro rec
    simp
    refine (all_loop l (fun p => cov st p.id) (by omega) (fun k => (st, l, (l.length : Int), (k : Int))) (some true) (some false) rfl ?_ ?_).trans (by cases l.all (fun p => cov st p.id) <;> rfl)
    · intro rec; simp
    · intro rec k x hx hk
      simp [hk, getZ_at hx, W_n1 (show k ≤ 9223372036854775806 by omega), iisCovered_v st _ hs']
      cases cov st x.id <;> simp
  · intro rec k x hx hk
    simp [hk, getZ_at hx, W_n1 (show k ≤ 9223372036854775806 by omega), iIsTogether_v l x h (h2 x (List.mem_of_getElem? hx))]
    cases together l x <;> simp
theorem sCovers_v (l : List Path) (st : List (List Int)) (h : Sm l) (hs : SmS st) : S_sCovers l st = some (covers l st) := by
  obtain ⟨h1, h2⟩ := hs
  unfold Sm at h1
  have hl := h
  unfold Sm at hl
  unfold S_sCovers covers
  simp only [rws_path, rws_il_ss, len_il, len_path]
  refine (all_loop st (together l) (by omega) (fun k => (l, st, (k : Int))) (if (l.all fun p => cov st p.id) = true then some (arePaths l) else some false) (some false) rfl ?_ ?_).trans (by cases st.all (together l) <;> cases (l.all fun p => cov st p.id) <;> cases arePaths l <;> rfl)
  · intro rec
    simp
    refine (all_loop l (fun p => cov st p.id) (by omega) (fun k => (l, st, (k : Int))) (some (arePaths l)) (some false) rfl ?_ ?_).trans (by simp)
    · intro rec; simp [sArePaths_v l h]
    · intro rec k x hx hk
      simp [hk]
      refine (iter_list0 st (by omega) (fun j (b : Bool) => (l, st, (k : Int), b, (j : Int))) false (fun s _ b => if (b || cov s x.id) = true then rec (l, st, (k : Int) + 1) else some false) rfl ?_ ?_).trans (by simp)
      · intro rec2 b
        cases b <;> simp [cov, W_n1 (show k ≤ 9223372036854775806 by omega)]
      · intro rec2 j y b hy hj hr
        simp only [Int.natCast_succ] at hr
        cases b with
        | true =>
          simp [hj, W_n1 (show j ≤ 9223372036854775806 by omega), hr]
        | false =>
          simp [hj, getZ_at hy, getZ_at hx, W_n1 (show j ≤ 9223372036854775806 by omega), sl6Has_v y _ (h2 y (List.mem_of_getElem? hy)), hr, cov]
  · intro rec k x hx hk
    simp [hk, getZ_at hx, W_n1 (show k ≤ 9223372036854775806 by omega), sIsTogether_v l x h (h2 x (List.mem_of_getElem? hx))]
    cases together l x <;> simp
def SmL (p : List Part) : Prop := Sm p ∧ ∀ y ∈ p, SmPart y
def partOk (l : List Path) (x : Part) : Bool := !x.stage.isEmpty && (together l x.stage && inR x.green (leastGreen l x.stage) 60)
def stages (p : List Part) : List (List Int) := p.map (·.stage)
def isPlan (l : List Path) (p : List Part) : Bool := inR p.length 1 6 && (p.all (partOk l) && covers l (stages p))
theorem stages_sm {p : List Part} (h : SmL p) : SmS (stages p) := by
  refine ⟨by have := h.1; unfold Sm stages at *; simpa using this, fun y hy => ?_⟩
  obtain ⟨x, hx, rfl⟩ := List.mem_map.1 hy
  exact h.2 x hx
theorem appe_il (l : List (List Int)) (a : List Int) : l.map (rOne (rX .shr 1 iR)).enc ++ [[.slc .shr 1 (a.map iR.enc)]] = (l ++ [a]).map (rOne (rX .shr 1 iR)).enc := (List.map_append (f := (rOne (rX .shr 1 iR)).enc) (l₁ := l) (l₂ := [a])).symm
theorem sl8Stages_v (p : List Part) (h : SmL p) : S_sl8Stages p = some (stages p) := by
  have h1 := h.1
  unfold Sm at h1
  unfold S_sl8Stages stages
  simp only [rws_part_ss, len_part]
  refine mapG_loop p (·.stage) (by omega) (fun k acc => (p, acc, (k : Int))) some rfl ?_ ?_
  · intro rec acc ha
    simp
  · intro rec k x acc hx hk ha
    simp [appe_il, hk, getZ_at hx, W_n1 (show k ≤ 9223372036854775806 by omega), ha, show (k + 1) * 24 ≤ 140737488355328 by omega, show k ≤ 1152921504606846975 by omega]
theorem len_e0 (x : List Int) : ((x.length : Int) == 0) = x.isEmpty := by
  cases x with
  | nil => rfl
  | cons a x => simp; omega
theorem sIsPlan_v (l : List Path) (p : List Part) (h : Sm l) (hp : SmL p) : S_sIsPlan l p = some (isPlan l p) := by
  have h1 := hp.1
  unfold Sm at h1
  unfold S_sIsPlan isPlan
  simp only [rws_path, rws_part_ss, len_part, sl1In_v, bnd_some, inR]
  cases (decide (1 ≤ (p.length : Int)) && decide ((p.length : Int) ≤ 6)) with
  | false => simp
  | true =>
  simp only [Bool.not_true, cnd_ff]
  refine (all_loop p (partOk l) (by omega) (fun k => (l, p, (k : Int))) (some (covers l (stages p))) (some false) rfl ?_ ?_).trans (by cases p.all (partOk l) <;> rfl)
  · intro rec
    simp [sl8Stages_v p hp, sCovers_v l _ h (stages_sm hp)]
  · intro rec k x hx hk
    have hx' : Sm x.stage := hp.2 x (List.mem_of_getElem? hx)
    simp [hk, getZ_at hx, W_n1 (show k ≤ 9223372036854775806 by omega), sIsTogether_v l _ h hx', sLeastGreen_v l _ h hx', len_e0, sl1In_v]
    unfold partOk inR
    cases x.stage.isEmpty <;> cases together l x.stage <;> cases decide (leastGreen l x.stage ≤ x.green) <;> cases decide (x.green ≤ 60) <;> simp
theorem iIsPlan_v (l : List Path) (p : List Part) (h : Sm l) (hp : SmL p) : S_iIsPlan l p = some (isPlan l p) := by
  have h1 := hp.1
  unfold Sm at h1
  unfold S_iIsPlan isPlan
  simp only [rws_path, rws_part_ss, len_part, iInRange_v, bnd_some, inR]
  cases (decide (1 ≤ (p.length : Int)) && decide ((p.length : Int) ≤ 6)) with
  | false => simp
  | true =>
  simp only [Bool.not_true, cnd_ff]
  refine (iter_listJ p (by omega) (fun k acc => (l, acc, p, (p.length : Int), (k : Int))) [] (fun k acc => acc = stages (p.take k)) rfl (fun s _ _ => if s.all (partOk l) = true then some (covers l (stages p)) else some false) rfl ?_ ?_).trans (by cases p.all (partOk l) <;> rfl)
  · intro rec acc ha
    rw [List.take_length] at ha
    subst ha
    simp [iCovers_v l _ h (stages_sm hp)]
  · intro rec k x acc ha hx hk hr
    have hx' : Sm x.stage := hp.2 x (List.mem_of_getElem? hx)
    have hal : acc.length = k := by rw [ha]; simp [stages]; omega
    simp only [Int.natCast_succ] at hr
    simp [appe_il, hk, getZ_at hx, W_n1 (show k ≤ 9223372036854775806 by omega), iIsTogether_v l _ h hx', iLeastGreen_v l _ h hx', len_e0, iInRange_v, hal, show (k + 1) * 24 ≤ 140737488355328 by omega, show k ≤ 1152921504606846975 by omega, -List.all_cons, -List.all_eq_true]
    rw [hr _ (by rw [ha]; simp [stages, List.take_add_one, hx])]
    rw [List.all_cons]
    unfold partOk inR
    generalize (List.drop (k + 1) p).all _ = b
    cases x.stage.isEmpty <;> cases together l x.stage <;> cases decide (leastGreen l x.stage ≤ x.green) <;> cases decide (x.green ≤ 60) <;> cases b <;> simp
end Go.Sh
