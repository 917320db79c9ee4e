/- Lamps, and the way in which a crossing runs. -/
import Derived.Test.YtmcfebdgbcaimaaDoorB7
set_option linter.all false
namespace Go.Sh
open Go.Fx
theorem findIdx_some {α : Type} (p : α → Bool) : ∀ l : List α, (l.findIdx? p).isSome = l.any p
  | [] => rfl
  | x :: l => by
    rw [List.findIdx?_cons, List.any_cons]
    cases p x with
    | true => rfl
    | false => simp [findIdx_some p l]
theorem find_loop {α V β : Type} (l : List α) (p : α → Bool) (hl : l.length ≤ 1099511627776) (st : Nat → V) (K : Nat → Option β) (no : Option β) {F : (V → Option β) → V → Option β} {v : V} (hv : v = st 0)
    (h0 : ∀ rec, F rec (st l.length) = no)
    (h1 : ∀ rec k x, l[k]? = some x → k < l.length → F rec (st k) = if p x = true then K k else rec (st (k + 1))) : iter F NN v = match l.findIdx? p with | some i => K i | none => no := by
  refine (iter_list0 l (by omega) (fun k (_ : Unit) => st k) () (fun s k _ => match s.findIdx? p with | some i => K (k + i) | none => no) hv ?_ ?_).trans ?_
  · intro rec _
    rw [h0]; simp
  · intro rec k x _ hx hk hr
    rw [h1 rec k x hx hk, List.findIdx?_cons]
    cases p x with
    | true => simp
    | false =>
      rw [if_neg (by simp), hr ()]
      cases (l.drop (k + 1)).findIdx? p with
      | none => simp
      | some i => simp; congr 1; omega
  · cases l.findIdx? p <;> simp
def findPath (l : List Path) (id : Int) : Int := match l.findIdx? (fun p => p.id == id) with | some i => (i : Int) | none => -1
theorem sFindPath_v (l : List Path) (id : Int) (h : Sm l) : S_sFindPath l id = some (findPath l id) := by
  unfold Sm at h
  unfold S_sFindPath findPath
  simp
  refine (find_loop l (fun p => p.id == id) (by omega) (fun k => (l, id, (k : Int))) (fun k => some (k : Int)) (some (-1)) rfl ?_ ?_).trans ?_
  · intro rec; simp
  · intro rec k x hx hk
    simp [hk, getZ_at hx, W_n1 (show k ≤ 9223372036854775806 by omega), cnd_if]
  · cases l.findIdx? _ <;> rfl
theorem iFindPath_v (l : List Path) (id : Int) (h : Sm l) : S_iFindPath l id = some (findPath l id) := by
  unfold Sm at h
  unfold S_iFindPath S_slices_IndexFunc_loop_example_g03006_impl_Path_loop_example_g03006_impl_Path S_iFindPath_1 findPath
  simp
  refine (find_loop l (fun p => p.id == id) (by omega) (fun k => (l, id, (l.length : Int), (k : Int))) (fun k => some (k : Int)) (some (-1)) rfl ?_ ?_).trans ?_
  · intro rec; simp
  · intro rec k x hx hk
    simp [hk, getZ_at hx, W_n1 (show k ≤ 9223372036854775806 by omega), cnd_if]
  · cases l.findIdx? _ <;> rfl
theorem findPath_lt {l : List Path} {id : Int} (h : ¬ findPath l id < 0) : ∃ (i : Nat) (x : Path), l[i]? = some x ∧ findPath l id = (i : Int) ∧ x.id = id := by
  unfold findPath at h ⊢
  cases hf : l.findIdx? (fun p => p.id == id) with
  | none => rw [hf] at h; simp at h
  | some i =>
    have := List.findIdx?_eq_some_iff_getElem.1 hf
    obtain ⟨h1, h2, _⟩ := this
    exact ⟨i, l[i], List.getElem?_eq_getElem h1, rfl, by simpa using h2⟩

def lampOk (l : List Path) (p : Lamp) : Bool := !decide (findPath l p.path < 0) && inR p.colour 0 1
def noDup (p q : Lamp) : Bool := !(q.path == p.path && q.colour == p.colour)
def goL (l : List Path) (x : List Lamp) : Nat → List Lamp → Bool
  | _, [] => true
  | k, p :: r => lampOk l p && (x.take k).all (noDup p) && goL l x (k + 1) r
def areLamps (l : List Path) (x : List Lamp) : Bool := goL l x 0 x && arePaths l
theorem take_at {α : Type} {l : List α} {k j : Nat} {x : α} (h : (l.take k)[j]? = some x) : l[j]? = some x := by
  rw [List.getElem?_take] at h
  split at h
  · exact h
  · cases h
theorem sAreLamps_v (l : List Path) (x : List Lamp) (h : Sm l) (hx : Sm x) : S_sAreLamps l x = some (areLamps l x) := by
  unfold S_sAreLamps areLamps
  simp
  have hx' := hx
  unfold Sm at hx'
  refine (iter_list0 x (by omega) (fun k (_ : Unit) => (l, x, (k : Int))) () (fun s k _ => some (goL l x k s && arePaths l)) rfl ?_ ?_).trans rfl
  · intro rec _
    simp [sArePaths_v l h, goL]
  · intro rec k p _ hp hk hr
    simp only [Int.natCast_succ] at hr
    have hk2 : k ≤ 9223372036854775806 := by omega
    simp [hk, getZ_at hp, sFindPath_v l _ h, sl1In_r, goL, lampOk]
    by_cases c1 : findPath l p.path < 0
    · simp [c1]
    simp only [c1, decide_false, cnd_ff, Bool.not_false, Bool.true_and]
    cases c2 : inR p.colour 0 1 with
    | false => simp
    | true =>
    simp only [Bool.not_true, cnd_ff, Bool.true_and]
    have hlen : (x.take k).length = k := by rw [List.length_take]; omega
    refine (all_loop (x.take k) (noDup p) (by omega) (fun j => (l, x, (k : Int), (j : Int))) (some (goL l x (k + 1) (x.drop (k + 1)) && arePaths l)) (some false) rfl ?_ ?_).trans ?_
    · intro rec'
      simp [hlen, W_n1 hk2]
      exact hr ()
    · intro rec' j q hq hj
      have hq' := take_at hq
      have hj' : j < k := by omega
      simp [hj', getZ_at hq', getZ_at hp, W_n1 (show j ≤ 9223372036854775806 by omega), cnd_if]
      by_cases e1 : q.path = p.path <;> by_cases e2 : q.colour = p.colour <;> simp [e1, e2, noDup]
    · generalize (x.take k).all (noDup p) = A
      cases A <;> simp
theorem iAreLamps_v (l : List Path) (x : List Lamp) (h : Sm l) (hx : Sm x) : S_iAreLamps l x = some (areLamps l x) := by
  unfold S_iAreLamps areLamps
  simp [iArePaths_v l h]
  have hx' := hx
  unfold Sm at hx'
  cases hp : arePaths l with
  | false => simp
  | true =>
  simp
  refine (iter_list0 x (by omega) (fun k (_ : Unit) => (l, x, x, (x.length : Int), (k : Int))) () (fun s k _ => some (goL l x k s)) rfl ?_ ?_).trans rfl
  · intro rec _
    simp [goL]
  · intro rec k p _ hp hk hr
    simp only [Int.natCast_succ] at hr
    have hk2 : k ≤ 9223372036854775806 := by omega
    simp [hk, getZ_at hp, iFindPath_v l _ h, goL, lampOk]
    by_cases c1 : findPath l p.path < 0
    · simp [c1]
    simp only [c1, decide_false, cnd_ff, Bool.not_false, Bool.true_and]
    have hlen : (x.take k).length = k := by rw [List.length_take]; omega
    generalize hI : iter (_ : ((List Path × List Lamp × List Lamp × Int × Int × List Lamp × Int × Int) × Lamp → Option Bool) → _ → Option Bool) NN _ = I
    have hI' : I = if (x.take k).all (noDup p) = true then some (goL l x (k + 1) (x.drop (k + 1))) else some false := by
      rw [← hI]
      refine all_loop (x.take k) (noDup p) (by omega) (fun j => ((l, x, x, (x.length : Int), (k : Int), x.take k, ((x.take k).length : Int), (j : Int)), p)) _ _ (by simp) ?_ ?_
      · intro rec'
        simp [hlen, W_n1 hk2]
        exact hr ()
      · intro rec' j q hq hj
        have hj' : j < k := by omega
        simp [hlen, hj', getZ_at hq, W_n1 (show j ≤ 9223372036854775806 by omega), cnd_if]
        by_cases e1 : p.path = q.path <;> by_cases e2 : p.colour = q.colour <;> simp [e1, e2, noDup, show k ≤ x.length by omega]
        all_goals first | done | (intro h1; exact absurd h1.symm e1) | grind
    rw [hI']
    generalize (x.take k).all (noDup p) = A
    by_cases e0 : p.colour = 0
    · simp [e0, inR, show k ≤ x.length by omega]
      cases A <;> simp
    · by_cases e1 : p.colour = 1
      · simp [e1, inR, show k ≤ x.length by omega]
        cases A <;> simp
      · rw [show inR p.colour 0 1 = false by simp [inR]; omega]
        simp [e0, e1, cnd_if]
def badLamp (q : Lamp) : Bool := q.colour == 0 && q.broken
def anyBad (x : List Lamp) : Bool := x.any badLamp
def mode (l : List Path) (x : List Lamp) (p : Bool) : Int := if p = false then 2 else if anyBad x then 1 else if areLamps l x then 0 else 1
theorem sModeFor_v (l : List Path) (x : List Lamp) (p : Bool) (h : Sm l) (hx : Sm x) : S_sModeFor l x p = some (mode l x p) := by
  unfold S_sModeFor mode
  have hx' := hx
  unfold Sm at hx'
  cases p with
  | false => rfl
  | true =>
  simp
  refine (all_loop x (fun q => !badLamp q) (by omega) (fun k => (l, x, (k : Int))) (some (if areLamps l x then 0 else 1)) (some 1) rfl ?_ ?_).trans ?_
  · intro rec
    simp [sAreLamps_v l x h hx]
    cases areLamps l x <;> rfl
  · intro rec k q hq hk
    simp [hk, getZ_at hq, W_n1 (show k ≤ 9223372036854775806 by omega), cnd_if]
    by_cases e1 : q.colour = 0 <;> cases e2 : q.broken <;> simp [e1, e2, badLamp]
  · have hB : anyBad x = !x.all (fun q => !badLamp q) := by rw [List.not_all_eq_any_not]; simp [anyBad]
    generalize x.all (fun q => !badLamp q) = A at hB ⊢
    rw [hB]
    cases A <;> simp
theorem iModeFor_v (l : List Path) (x : List Lamp) (p : Bool) (h : Sm l) (hx : Sm x) : S_iModeFor l x p = some (mode l x p) := by
  unfold S_iModeFor mode
  have hx' := hx
  unfold Sm at hx'
  cases p with
  | false => rfl
  | true =>
  have key : S_slices_ContainsFunc_loop_example_g03006_impl_Lamp_loop_example_g03006_impl_Lamp x = some (anyBad x) := by
    unfold S_slices_ContainsFunc_loop_example_g03006_impl_Lamp_loop_example_g03006_impl_Lamp S_slices_IndexFunc_loop_example_g03006_impl_Lamp_loop_example_g03006_impl_Lamp S_iModeFor_1
    simp
    generalize hI : iter (_ : (List Lamp × Unit × Int × Int → Option Int) → _ → Option Int) NN _ = I
    have hI' : I = match x.findIdx? badLamp with | some i => some (i : Int) | none => some (-1) := by
      rw [← hI]
      refine find_loop x badLamp (by omega) (fun k => (x, (), (x.length : Int), (k : Int))) (fun k => some (k : Int)) (some (-1)) rfl ?_ ?_
      · intro rec; simp
      · intro rec k q hq hk
        simp [hk, getZ_at hq, W_n1 (show k ≤ 9223372036854775806 by omega), cnd_if]
        by_cases e1 : q.colour = 0 <;> cases e2 : q.broken <;> simp [e1, e2, badLamp]
    rw [hI']
    have hB : anyBad x = (x.findIdx? badLamp).isSome := by rw [findIdx_some]; rfl
    rw [hB]
    cases x.findIdx? badLamp <;> simp
  simp [iAreLamps_v l x h hx, key]
  cases areLamps l x <;> cases anyBad x <;> rfl
end Go.Sh
