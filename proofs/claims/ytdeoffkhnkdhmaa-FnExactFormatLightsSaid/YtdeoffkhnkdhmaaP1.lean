/- What the functions of the first laws compute. -/
import Derived.Test.YtdeoffkhnkdhmaaHp1
set_option linter.all false
namespace Go.Sh
open Go.Fx

theorem sl1In_v (x a b : Int) : S_sl1In x a b = some (decide (a ≤ x) && decide (x ≤ b)) := by
  unfold S_sl1In
  by_cases h : a ≤ x <;> simp [h, cnd_if]
theorem iInRange_v (x a b : Int) : S_iInRange x a b = some (decide (a ≤ x) && decide (x ≤ b)) := by
  unfold S_iInRange
  by_cases h : a ≤ x <;> simp [h, cnd_if]

theorem verdict_v (r s : Report) : ∃ v, S_sVerdict r s = some v ∧ S_iVerdict r s = some v := by
  unfold S_sVerdict S_iVerdict
  simp only [sl1In_v, iInRange_v, bnd_some]
  by_cases h0 : r.second = s.second
  · cases h1 : (decide (0 ≤ r.light) && decide (r.light ≤ 2)) with
    | false => exact ⟨_, by simp [h0, cnd_if]; rfl, by simp [h0, cnd_if]⟩
    | true =>
      cases h2 : (decide (0 ≤ s.light) && decide (s.light ≤ 2)) with
      | false => exact ⟨_, by simp [h0, cnd_if]; rfl, by simp [h0, cnd_if]⟩
      | true => by_cases h3 : r.light = 0 <;> by_cases h4 : s.light = 0 <;> exact ⟨_, by simp [h0, h3, h4, cnd_if]; rfl, by simp [h0, h3, h4, cnd_if]⟩
  · exact ⟨_, by simp [h0, cnd_if]; rfl, by simp [h0, cnd_if]⟩

theorem W_n1 {n : Nat} (h : n ≤ 9223372036854775806) : W ((n : Int) + 1) = (n : Int) + 1 := W_id (by omega) (by omega)

theorem sCountBroken_v (l : List Lamp) (h : Sm l) : S_sCountBroken l = some (cnt (fun x => x.broken) l) := by
  unfold Sm at h
  unfold S_sCountBroken
  simp
  refine count_loop l (fun x => x.broken) (by omega) (fun k n => (l, n, (k : Int))) some rfl ?_ ?_
  · intro rec n; simp
  · intro rec k x n hx hk hn
    simp [hk, getZ_at hx, W_n1 (show k ≤ 9223372036854775806 by omega), W_n1 (show n ≤ 9223372036854775806 by omega), cnd_if]
theorem iCountBroken_v (l : List Lamp) (h : Sm l) : S_iCountBroken l = some (cnt (fun x => x.broken) l) := by
  unfold Sm at h
  unfold S_iCountBroken
  simp
  refine count_loop l (fun x => x.broken) (by omega) (fun k n => (n, l, (l.length : Int), (k : Int))) some rfl ?_ ?_
  · intro rec n; simp
  · intro rec k x n hx hk hn
    simp [hk, getZ_at hx, W_n1 (show k ≤ 9223372036854775806 by omega), W_n1 (show n ≤ 9223372036854775806 by omega), cnd_if]
theorem sCountEvents_v (l : List Evt) (c : Int) (h : Sm l) : S_sCountEvents l c = some (cnt (fun x => x.kind == c) l) := by
  unfold Sm at h
  unfold S_sCountEvents
  simp
  refine count_loop l (fun x => x.kind == c) (by omega) (fun k n => (l, c, n, (k : Int))) some rfl ?_ ?_
  · intro rec n; simp
  · intro rec k x n hx hk hn
    simp [hk, getZ_at hx, W_n1 (show k ≤ 9223372036854775806 by omega), W_n1 (show n ≤ 9223372036854775806 by omega), cnd_if]
theorem iCountEvents_v (l : List Evt) (c : Int) (h : Sm l) : S_iCountEvents l c = some (cnt (fun x => x.kind == c) l) := by
  unfold Sm at h
  unfold S_iCountEvents
  simp
  refine count_loop l (fun x => x.kind == c) (by omega) (fun k n => (c, n, l, (l.length : Int), (k : Int))) some rfl ?_ ?_
  · intro rec n; simp
  · intro rec k x n hx hk hn
    simp [hk, getZ_at hx, W_n1 (show k ≤ 9223372036854775806 by omega), W_n1 (show n ≤ 9223372036854775806 by omega), cnd_if]
theorem sCountKind_v (l : List Path) (c : Int) (h : Sm l) : S_sCountKind l c = some (cnt (fun x => x.kind == c) l) := by
  unfold Sm at h
  unfold S_sCountKind
  simp
  refine count_loop l (fun x => x.kind == c) (by omega) (fun k n => (l, c, n, (k : Int))) some rfl ?_ ?_
  · intro rec n; simp
  · intro rec k x n hx hk hn
    simp [hk, getZ_at hx, W_n1 (show k ≤ 9223372036854775806 by omega), W_n1 (show n ≤ 9223372036854775806 by omega), cnd_if]
theorem iCountKind_v (l : List Path) (c : Int) (h : Sm l) : S_iCountKind l c = some (cnt (fun x => x.kind == c) l) := by
  unfold Sm at h
  unfold S_iCountKind
  simp
  refine count_loop l (fun x => x.kind == c) (by omega) (fun k n => (c, n, l, (l.length : Int), (k : Int))) some rfl ?_ ?_
  · intro rec n; simp
  · intro rec k x n hx hk hn
    simp [hk, getZ_at hx, W_n1 (show k ≤ 9223372036854775806 by omega), W_n1 (show n ≤ 9223372036854775806 by omega), cnd_if]
theorem sCountLights_v (l : List Report) (c : Int) (h : Sm l) : S_sCountLights l c = some (cnt (fun x => x.light == c) l) := by
  unfold Sm at h
  unfold S_sCountLights
  simp
  refine count_loop l (fun x => x.light == c) (by omega) (fun k n => (l, c, n, (k : Int))) some rfl ?_ ?_
  · intro rec n; simp
  · intro rec k x n hx hk hn
    simp [hk, getZ_at hx, W_n1 (show k ≤ 9223372036854775806 by omega), W_n1 (show n ≤ 9223372036854775806 by omega), cnd_if]
theorem iCountLights_v (l : List Report) (c : Int) (h : Sm l) : S_iCountLights l c = some (cnt (fun x => x.light == c) l) := by
  unfold Sm at h
  unfold S_iCountLights
  simp
  refine count_loop l (fun x => x.light == c) (by omega) (fun k n => (c, n, l, (l.length : Int), (k : Int))) some rfl ?_ ?_
  · intro rec n; simp
  · intro rec k x n hx hk hn
    simp [hk, getZ_at hx, W_n1 (show k ≤ 9223372036854775806 by omega), W_n1 (show n ≤ 9223372036854775806 by omega), cnd_if]

/-! paths -/
def inR (n a b : Int) : Bool := decide (a ≤ n) && decide (n ≤ b)
def isPath (p : Path) : Bool := inR p.id 1 20 && inR p.kind 1 3 && inR p.src 0 3 && inR p.dst 0 3 && ((p.src == p.dst) == (p.kind == 2))
theorem sIsPath_v (p : Path) : S_sIsPath p = some (isPath p) := by
  unfold S_sIsPath isPath inR
  simp only [sl1In_v, bnd_some]
  cases (decide (1 ≤ p.id) && decide (p.id ≤ 20)) <;> cases (decide (1 ≤ p.kind) && decide (p.kind ≤ 3)) <;> cases (decide (0 ≤ p.src) && decide (p.src ≤ 3)) <;> cases (decide (0 ≤ p.dst) && decide (p.dst ≤ 3)) <;> simp
theorem iIsPath_v (p : Path) : S_iIsPath p = some (isPath p) := by
  unfold S_iIsPath isPath inR
  simp only [iInRange_v, bnd_some]
  cases (decide (1 ≤ p.id) && decide (p.id ≤ 20)) <;> cases (decide (1 ≤ p.kind) && decide (p.kind ≤ 3)) <;> cases (decide (0 ≤ p.src) && decide (p.src ≤ 3)) <;> cases (decide (0 ≤ p.dst) && decide (p.dst ≤ 3)) <;> simp

/-- valid paths, their ids rising -/
def goP : Option Int → List Path → Bool
  | _, [] => true
  | none, p :: r => isPath p && goP (some p.id) r
  | some i, p :: r => isPath p && decide (i < p.id) && goP (some p.id) r
def arePaths (l : List Path) : Bool := decide (l.length ≤ 12) && goP none l
/-- the id ahead of place k -/
def prevId (l : List Path) (k : Nat) : Option Int := if k = 0 then none else (l[k - 1]?).map (·.id)
theorem prevId_succ {l : List Path} {k : Nat} {x : Path} (h : l[k]? = some x) : prevId l (k + 1) = some x.id := by
  unfold prevId
  simp [h]
theorem sArePaths_v (l : List Path) (h : Sm l) : S_sArePaths l = some (arePaths l) := by
  unfold Sm at h
  unfold S_sArePaths
  simp
  refine (iter_list0 l (by omega) (fun k (_ : Unit) => (l, (k : Int))) () (fun s k _ => some (goP (prevId l k) s && decide (l.length ≤ 12))) rfl ?_ ?_).trans ?_
  · intro rec _
    simp [goP]
    omega
  · intro rec k x _ hx hk hr
    have hr' := hr ()
    simp [hk, getZ_at hx, sIsPath_v, W_n1 (show k ≤ 9223372036854775806 by omega)] at hr' ⊢
    cases hp : isPath x with
    | false => cases hq : prevId l k <;> simp [goP, hp]
    | true =>
      simp
      by_cases h0 : k = 0
      · subst h0
        simp [prevId, hx] at hr'
        simp [hr', prevId, goP, hp, hx]
      · have hz : l[k - 1]? = some l[k - 1] := List.getElem?_eq_getElem (by omega)
        have hk1 : W ((k : Int) - 1) = ((k - 1 : Nat) : Int) := by rw [W_id (by omega) (by omega)]; omega
        simp [show 0 < k by omega, hk1, getZ_at hz, hr', prevId_succ hx]
        rw [show prevId l k = some (l[k - 1]).id by unfold prevId; simp [h0, hz]]
        simp [goP, hp, cnd_if]
        by_cases h1 : x.id ≤ (l[k - 1]).id
        · simp [h1, show ¬ ((l[k - 1]).id < x.id) by omega]
        · simp [h1, show (l[k - 1]).id < x.id by omega]
  · simp [prevId, arePaths, Bool.and_comm]
theorem iArePaths_v (l : List Path) (h : Sm l) : S_iArePaths l = some (arePaths l) := by
  unfold Sm at h
  unfold S_iArePaths
  simp
  by_cases h12 : (12 : Int) < (l.length : Int)
  · simp [h12, arePaths, show ¬ (l.length ≤ 12) by omega]
  simp [h12]
  refine (iter_list0 l (by omega) (fun k (_ : Unit) => (l, l, (l.length : Int), (k : Int))) () (fun s k _ => some (goP (prevId l k) s)) rfl ?_ ?_).trans ?_
  · intro rec _
    simp [goP]
  · intro rec k x _ hx hk hr
    have hr' := hr ()
    simp [hk, getZ_at hx, iIsPath_v, W_n1 (show k ≤ 9223372036854775806 by omega)] at hr' ⊢
    cases hp : isPath x with
    | false => cases hq : prevId l k <;> simp [goP, hp]
    | true =>
      simp
      by_cases h0 : k = 0
      · subst h0
        simp [prevId, hx] at hr'
        simp [hr', prevId, goP, hp, hx]
      · have hz : l[k - 1]? = some l[k - 1] := List.getElem?_eq_getElem (by omega)
        have hk1 : W ((k : Int) - 1) = ((k - 1 : Nat) : Int) := by rw [W_id (by omega) (by omega)]; omega
        simp [show 0 < k by omega, hk1, getZ_at hz, hr', prevId_succ hx]
        rw [show prevId l k = some (l[k - 1]).id by unfold prevId; simp [h0, hz]]
        simp [goP, hp, cnd_if]
        by_cases h1 : x.id ≤ (l[k - 1]).id
        · simp [h1, show ¬ ((l[k - 1]).id < x.id) by omega]
        · simp [h1, show (l[k - 1]).id < x.id by omega]
  · simp [prevId, arePaths, show l.length ≤ 12 by omega]
end Go.Sh
