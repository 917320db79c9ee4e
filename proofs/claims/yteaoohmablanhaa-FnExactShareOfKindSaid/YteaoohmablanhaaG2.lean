/- Plans: how long its parts are, and what a path shows. -/
import Derived.Test.YteaoohmablanhaaG1
set_option linter.all false
namespace Go.Sh
open Go.Fx
theorem clearOf_r (p : Path) : 0 ≤ clearOf p ∧ clearOf p ≤ 5 := by
  unfold clearOf
  split
  · split
    · omega
    · split <;> omega
  · omega
theorem foldl_r {α : Type} (f : Int → α → Int) (hf : ∀ n x, 0 ≤ n ∧ n ≤ 5 → 0 ≤ f n x ∧ f n x ≤ 5) : ∀ (l : List α) (n : Int), 0 ≤ n ∧ n ≤ 5 → 0 ≤ l.foldl f n ∧ l.foldl f n ≤ 5
  | [], n, h => h
  | x :: l, n, h => foldl_r f hf l _ (hf n x h)
theorem clearBetween_r (l : List Path) (a b : List Int) : 0 ≤ clearBetween l a b ∧ clearBetween l a b ≤ 5 := by
  unfold clearBetween
  split
  · refine foldl_r _ (fun n x hn => foldl_r _ (fun n y hn => ?_) _ n hn) _ 0 (by omega)
    unfold stepC most
    have := clearOf_r (pathAt l x)
    split
    · split <;> omega
    · exact hn
  · omega
theorem leastGreen_r (l : List Path) (ids : List Int) : 5 ≤ leastGreen l ids ∧ leastGreen l ids ≤ 7 := by
  unfold leastGreen; split <;> omega
theorem isPlan_spec {l : List Path} {p : List Part} (h : isPlan l p = true) : 1 ≤ p.length ∧ p.length ≤ 6 ∧ (∀ x ∈ p, 5 ≤ x.green ∧ x.green ≤ 60) ∧ arePaths l = true := by
  unfold isPlan covers at h
  simp only [Bool.and_eq_true, List.all_eq_true] at h
  obtain ⟨h1, h2, h3, _⟩ := h
  unfold inR at h1
  simp at h1
  refine ⟨by omega, by omega, fun x hx => ?_, h3⟩
  have := h2 x hx
  unfold partOk inR at this
  simp at this
  have := leastGreen_r l x.stage
  omega
def nextOf (p : List Part) (i : Nat) : Part := (p[(i + 1) % p.length]?).getD default
def lg (l : List Path) (p : List Part) (i : Nat) : Nat := match p[i]? with
  | some x => (x.green + clearBetween l x.stage (nextOf p i).stage).toNat
  | none => 0
theorem nextOf_at {p : List Part} (h : 1 ≤ p.length) (i : Nat) : p[(i + 1) % p.length]? = some (nextOf p i) := by
  unfold nextOf
  have : (i + 1) % p.length < p.length := Nat.mod_lt _ (by omega)
  rw [List.getElem?_eq_getElem this]; rfl
theorem tmod_n {a b : Nat} : Int.tmod (a : Int) (b : Int) = ((a % b : Nat) : Int) := by
  rw [Int.tmod_eq_emod_of_nonneg (by omega)]; omega
theorem getZ_next {p : List Part} (h : 1 ≤ p.length) (i : Nat) {β : Type} (K : Part → Option β) : getZ p (((i : Int) + 1) % (p.length : Int)) K = K (nextOf p i) := by
  have := getZ_at (nextOf_at h i) K
  rw [Int.natCast_emod] at this
  simpa using this
theorem ne_nil1 {α : Type} {p : List α} (h : 1 ≤ p.length) : ¬ p = [] := by intro e; rw [e] at h; simp at h
theorem nextOf_sm {p : List Part} (hp : SmL p) (h : 1 ≤ p.length) (i : Nat) : Sm (nextOf p i).stage := hp.2 _ (List.mem_of_getElem? (nextOf_at h i))
theorem lg_at {l : List Path} {p : List Part} (h : isPlan l p = true) {i : Nat} {x : Part} (hx : p[i]? = some x) : ((lg l p i : Nat) : Int) = x.green + clearBetween l x.stage (nextOf p i).stage ∧ 5 ≤ lg l p i ∧ lg l p i ≤ 65 := by
  obtain ⟨h1, h2, h3, _⟩ := isPlan_spec h
  have := h3 x (List.mem_of_getElem? hx)
  have := clearBetween_r l x.stage (nextOf p i).stage
  unfold lg
  rw [hx]
  simp only
  omega
theorem inextStage_v (p : List Part) (hp : SmL p) (h1 : 1 ≤ p.length) (i : Nat) (hi : i < p.length) : S_inextStage p (i : Int) = some (nextOf p i).stage := by
  have hs := hp.1
  unfold Sm at hs
  unfold S_inextStage
  have e : Int.tmod ((i : Int) + 1) (p.length : Int) = (((i + 1) % p.length : Nat) : Int) := tmod_n (a := i + 1)
  simp [W_n1 (show i ≤ 9223372036854775806 by omega), e, getZ_next h1 i, show ¬ p.length = 0 by omega]
theorem ilongOf_v (l : List Path) (p : List Part) (h : Sm l) (hp : SmL p) (hpl : isPlan l p = true) (i : Nat) (hi : i < p.length) : S_ilongOf l p (i : Int) = some (lg l p i : Int) := by
  obtain ⟨h1, _, _, _⟩ := isPlan_spec hpl
  have hx : p[i]? = some p[i] := List.getElem?_eq_getElem hi
  obtain ⟨e1, e2, e3⟩ := lg_at hpl hx
  unfold S_ilongOf
  simp [getZ_at hx, inextStage_v p hp h1 i hi, iClearBetween_v l _ _ h (hp.2 _ (List.mem_of_getElem? hx)) (nextOf_sm hp h1 i)]
  rw [← e1, W_id (by omega) (by omega)]
theorem sl8Long_v (l : List Path) (p : List Part) (h : Sm l) (hp : SmL p) (hpl : isPlan l p = true) (i : Nat) (hi : i < p.length) : S_sl8Long l p (i : Int) = some (lg l p i : Int) := by
  have hs := hp.1
  unfold Sm at hs
  obtain ⟨h1, _, _, _⟩ := isPlan_spec hpl
  have hx : p[i]? = some p[i] := List.getElem?_eq_getElem hi
  obtain ⟨e1, e2, e3⟩ := lg_at hpl hx
  have e : Int.tmod ((i : Int) + 1) (p.length : Int) = (((i + 1) % p.length : Nat) : Int) := tmod_n (a := i + 1)
  unfold S_sl8Long
  simp [getZ_at hx, W_n1 (show i ≤ 9223372036854775806 by omega), e, getZ_next h1 i, sClearBetween_v l _ _ h (hp.2 _ (List.mem_of_getElem? hx)) (nextOf_sm hp h1 i)]
  rw [ifA_pos (ne_nil1 h1), ← e1, W_id (by omega) (by omega)]
def lens (l : List Path) (p : List Part) : List Nat := (List.range p.length).map (lg l p)
def cyc (l : List Path) (p : List Part) : Nat := if isPlan l p = true then (lens l p).sum else 0
theorem sum_take (l : List Nat) (k : Nat) (x : Nat) (hx : l[k]? = some x) : (l.take (k + 1)).sum = (l.take k).sum + x := by
  rw [List.take_add_one, hx]; simp
theorem lens_at {l : List Path} {p : List Part} {k : Nat} (h : k < p.length) : (lens l p)[k]? = some (lg l p k) := by
  unfold lens; simp [h]
theorem lens_len (l : List Path) (p : List Part) : (lens l p).length = p.length := by unfold lens; simp
theorem sum_le (l : List Nat) (c : Nat) (h : ∀ x ∈ l, x ≤ c) : l.sum ≤ l.length * c := by
  induction l with
  | nil => simp
  | cons x l ih =>
    have h1 := h x (List.mem_cons_self ..)
    have h2 := ih fun y hy => h y (List.mem_cons_of_mem _ hy)
    simp only [List.sum_cons, List.length_cons, Nat.add_mul, Nat.one_mul]
    omega
theorem lens_le {l : List Path} {p : List Part} (h : isPlan l p = true) (k : Nat) : ((lens l p).take k).sum ≤ 390 := by
  have h1 := sum_le ((lens l p).take k) 65 (fun x hx => by
    have := List.mem_of_mem_take hx
    unfold lens at this
    obtain ⟨i, hi, rfl⟩ := List.mem_map.1 this
    have hi' : i < p.length := by simpa using hi
    exact (lg_at h (List.getElem?_eq_getElem hi')).2.2)
  have h2 : ((lens l p).take k).length ≤ 6 := by
    have := (isPlan_spec h).2.1
    rw [List.length_take, lens_len]; omega
  have := Nat.mul_le_mul_right 65 h2
  omega
theorem cyc_r {l : List Path} {p : List Part} (h : isPlan l p = true) : 5 ≤ cyc l p ∧ cyc l p ≤ 390 := by
  have h1 := (isPlan_spec h).1
  unfold cyc
  rw [if_pos h]
  have e := lens_le h p.length
  rw [List.take_of_length_le (by rw [lens_len]; omega)] at e
  refine ⟨?_, e⟩
  have h0 : (lens l p)[0]? = some (lg l p 0) := lens_at (by omega)
  have h2 := (lg_at h (List.getElem?_eq_getElem (show 0 < p.length by omega))).2.1
  cases hl : lens l p with
  | nil => rw [hl] at h0; cases h0
  | cons x r =>
    rw [hl] at h0
    simp at h0
    subst h0
    simp only [List.sum_cons]; omega
theorem iCycle_v (l : List Path) (p : List Part) (h : Sm l) (hp : SmL p) : S_iCycle l p = some (cyc l p : Int) := by
  have hs := hp.1
  unfold Sm at hs
  unfold S_iCycle
  simp only [rws_path, rws_part_ss, len_part, iIsPlan_v l p h hp, bnd_some]
  cases hpl : isPlan l p with
  | false => simp [cyc, hpl]
  | true =>
  simp only [Bool.not_true, cnd_ff]
  refine (iter_listJ p (by omega) (fun k acc => (l, p, acc, (p.length : Int), (k : Int))) (0 : Int) (fun k acc => acc = (((lens l p).take k).sum : Nat)) (by simp) (fun _ _ _ => some (cyc l p : Int)) rfl ?_ ?_).trans rfl
  · intro rec acc ha
    rw [List.take_of_length_le (by rw [lens_len]; omega)] at ha
    simp [ha, cyc, hpl]
  · intro rec k x acc ha hx hk hr
    simp only [Int.natCast_succ] at hr
    have e := lens_le hpl k
    have e2 := (lg_at hpl hx).2.2
    simp [hk, ilongOf_v l p h hp hpl k hk, W_n1 (show k ≤ 9223372036854775806 by omega)]
    rw [W_id (by omega) (by omega)]
    exact hr _ (by rw [ha, sum_take _ _ _ (lens_at hk)]; omega)
theorem sCycle_v (l : List Path) (p : List Part) (h : Sm l) (hp : SmL p) : S_sCycle l p = some (cyc l p : Int) := by
  have hs := hp.1
  unfold Sm at hs
  unfold S_sCycle
  simp only [rws_path, rws_part_ss, len_part]
  cases hpl : isPlan l p with
  | false =>
    refine (iter_list0 p (by omega) (fun k (_ : Unit) => (l, p, (0 : Int), (k : Int))) () (fun _ k _ => if k = 0 ∨ True then some 0 else none) rfl ?_ ?_).trans (by simp [cyc, hpl])
    · intro rec _; simp
    · intro rec k x _ hx hk hr
      simp [hk, sIsPlan_v l p h hp, hpl]
  | true =>
  refine (iter_listJ p (by omega) (fun k acc => (l, p, acc, (k : Int))) (0 : Int) (fun k acc => acc = (((lens l p).take k).sum : Nat)) (by simp) (fun _ _ _ => some (cyc l p : Int)) rfl ?_ ?_).trans rfl
  · intro rec acc ha
    rw [List.take_of_length_le (by rw [lens_len]; omega)] at ha
    simp [ha, cyc, hpl]
  · intro rec k x acc ha hx hk hr
    simp only [Int.natCast_succ] at hr
    have e := lens_le hpl k
    have e2 := (lg_at hpl hx).2.2
    simp [hk, sIsPlan_v l p h hp, hpl, sl8Long_v l p h hp hpl k hk, W_n1 (show k ≤ 9223372036854775806 by omega)]
    rw [W_id (by omega) (by omega)]
    exact hr _ (by rw [ha, sum_take _ _ _ (lens_at hk)]; omega)
end Go.Sh
