/- The lights that are shown now, and whether they are safe. -/
import Derived.Test.YtmcfebdgbcaimaaC5
set_option linter.all false
namespace Go.Sh
open Go.Fx
theorem findIdx_some {α : Type} (p : α → Bool) (l : List α) : (l.findIdx? p).isSome = l.any p := findIdx_some' p l
def lampOk (l : List Path) (p : Lamp) : Bool := !decide (findPath l p.path < 0) && inR p.colour 0 1
def noDup (p q : Lamp) : Bool := !(q.path == p.path && q.colour == p.colour)
def goL (l : List Path) (x : List Lamp) : Nat → List Lamp → Bool
  | _, [] => true
  | k, p :: r => lampOk l p && (x.take k).all (noDup p) && goL l x (k + 1) r
def areLamps (l : List Path) (x : List Lamp) : Bool := goL l x 0 x && arePaths l
theorem take_at {α : Type} {l : List α} {k j : Nat} {x : α} (h : (l.take k)[j]? = some x) : l[j]? = some x := by
  rw [List.getElem?_take] at h
  split at h
  · exact h
  · cases h
theorem sAreLamps_v (l : List Path) (x : List Lamp) (h : Sm l) (hx : Sm x) : S_sAreLamps l x = some (areLamps l x) := by
  unfold S_sAreLamps areLamps
  simp
  have hx' := hx
  unfold Sm at hx'
  refine (iter_list0 x (by omega) (fun k (_ : Unit) => (l, x, (k : Int))) () (fun s k _ => some (goL l x k s && arePaths l)) rfl ?_ ?_).trans rfl
  · intro rec _
    simp [sArePaths_v l h, goL]
  · intro rec k p _ hp hk hr
    simp only [Int.natCast_succ] at hr
    have hk2 : k ≤ 9223372036854775806 := by omega
    simp [hk, getZ_at hp, sFindPath_v l _ h, sl1In_r, goL, lampOk]
    by_cases c1 : findPath l p.path < 0
    · simp [c1]
    simp only [c1, decide_false, cnd_ff, Bool.not_false, Bool.true_and]
    cases c2 : inR p.colour 0 1 with
    | false => simp
    | true =>
    simp only [Bool.not_true, cnd_ff, Bool.true_and]
    have hlen : (x.take k).length = k := by rw [List.length_take]; omega
    refine (all_loop (x.take k) (noDup p) (by omega) (fun j => (l, x, (k : Int), (j : Int))) (some (goL l x (k + 1) (x.drop (k + 1)) && arePaths l)) (some false) rfl ?_ ?_).trans ?_
    · intro rec'
      simp [hlen, W_n1 hk2]
      exact hr ()
    · intro rec' j q hq hj
      have hq' := take_at hq
      have hj' : j < k := by omega
      simp [hj', getZ_at hq', getZ_at hp, W_n1 (show j ≤ 9223372036854775806 by omega), cnd_if]
      by_cases e1 : q.path = p.path <;> by_cases e2 : q.colour = p.colour <;> simp [e1, e2, noDup]
    · generalize (x.take k).all (noDup p) = A
      cases A <;> simp
theorem iAreLamps_v (l : List Path) (x : List Lamp) (h : Sm l) (hx : Sm x) : S_iAreLamps l x = some (areLamps l x) := by
  unfold S_iAreLamps areLamps
  simp [iArePaths_v l h]
  have hx' := hx
  unfold Sm at hx'
  cases hp : arePaths l with
  | false => simp
  | true =>
  simp
  refine (iter_list0 x (by omega) (fun k (_ : Unit) => (l, x, x, (x.length : Int), (k : Int))) () (fun s k _ => some (goL l x k s)) rfl ?_ ?_).trans rfl
  · intro rec _
    simp [goL]
  · intro rec k p _ hp hk hr
    simp only [Int.natCast_succ] at hr
    have hk2 : k ≤ 9223372036854775806 := by omega
    simp [hk, getZ_at hp, iFindPath_v l _ h, goL, lampOk]
    by_cases c1 : findPath l p.path < 0
    · simp [c1]
    simp only [c1, decide_false, cnd_ff, Bool.not_false, Bool.true_and]
    have hlen : (x.take k).length = k := by rw [List.length_take]; omega
    generalize hI : iter (_ : ((List Path × List Lamp × List Lamp × Int × Int × List Lamp × Int × Int) × Lamp → Option Bool) → _ → Option Bool) NN _ = I
    have hI' : I = if (x.take k).all (noDup p) = true then some (goL l x (k + 1) (x.drop (k + 1))) else some false := by
      rw [← hI]
      refine all_loop (x.take k) (noDup p) (by omega) (fun j => ((l, x, x, (x.length : Int), (k : Int), x.take k, ((x.take k).length : Int), (j : Int)), p)) _ _ (by simp) ?_ ?_
      · intro rec'
        simp [hlen, W_n1 hk2]
        exact hr ()
      · intro rec' j q hq hj
        have hj' : j < k := by omega
        simp [hlen, hj', getZ_at hq, W_n1 (show j ≤ 9223372036854775806 by omega), cnd_if]
        by_cases e1 : p.path = q.path <;> by_cases e2 : p.colour = q.colour <;> simp [e1, e2, noDup, show k ≤ x.length by omega]
        all_goals first | done | (intro h1; exact absurd h1.symm e1) | grind
    rw [hI']
    generalize (x.take k).all (noDup p) = A
    by_cases e0 : p.colour = 0
    · simp [e0, inR, show k ≤ x.length by omega]
      cases A <;> simp
    · by_cases e1 : p.colour = 1
      · simp [e1, inR, show k ≤ x.length by omega]
        cases A <;> simp
      · rw [show inR p.colour 0 1 = false by simp [inR]; omega]
        simp [e0, e1, cnd_if]
def badLamp (q : Lamp) : Bool := q.colour == 0 && q.broken
def anyBad (x : List Lamp) : Bool := x.any badLamp
def mode (l : List Path) (x : List Lamp) (p : Bool) : Int := if p = false then 2 else if anyBad x then 1 else if areLamps l x then 0 else 1
theorem sModeFor_v (l : List Path) (x : List Lamp) (p : Bool) (h : Sm l) (hx : Sm x) : S_sModeFor l x p = some (mode l x p) := by
  unfold S_sModeFor mode
  have hx' := hx
  unfold Sm at hx'
  cases p with
  | false => rfl
  | true =>
  simp
  refine (all_loop x (fun q => !badLamp q) (by omega) (fun k => (l, x, (k : Int))) (some (if areLamps l x then 0 else 1)) (some 1) rfl ?_ ?_).trans ?_
  · intro rec
    simp [sAreLamps_v l x h hx]
    cases areLamps l x <;> rfl
  · intro rec k q hq hk
    simp [hk, getZ_at hq, W_n1 (show k ≤ 9223372036854775806 by omega), cnd_if]
    by_cases e1 : q.colour = 0 <;> cases e2 : q.broken <;> simp [e1, e2, badLamp]
  · have hB : anyBad x = !x.all (fun q => !badLamp q) := by rw [List.not_all_eq_any_not]; simp [anyBad]
    generalize x.all (fun q => !badLamp q) = A at hB ⊢
    rw [hB]
    cases A <;> simp
theorem iModeFor_v (l : List Path) (x : List Lamp) (p : Bool) (h : Sm l) (hx : Sm x) : S_iModeFor l x p = some (mode l x p) := by
  unfold S_iModeFor mode
  have hx' := hx
  unfold Sm at hx'
  cases p with
  | false => rfl
  | true =>
  have key : S_slices_ContainsFunc_loop_example_g03006_impl_Lamp_loop_example_g03006_impl_Lamp x = some (anyBad x) := by
    unfold S_slices_ContainsFunc_loop_example_g03006_impl_Lamp_loop_example_g03006_impl_Lamp S_slices_IndexFunc_loop_example_g03006_impl_Lamp_loop_example_g03006_impl_Lamp S_iModeFor_1
    simp
    generalize hI : iter (_ : (List Lamp × Unit × Int × Int → Option Int) → _ → Option Int) NN _ = I
    have hI' : I = match x.findIdx? badLamp with | some i => some (i : Int) | none => some (-1) := by
      rw [← hI]
      refine find_loop x badLamp (by omega) (fun k => (x, (), (x.length : Int), (k : Int))) (fun k => some (k : Int)) (some (-1)) rfl ?_ ?_
      · intro rec; simp
      · intro rec k q hq hk
        simp [hk, getZ_at hq, W_n1 (show k ≤ 9223372036854775806 by omega), cnd_if]
        by_cases e1 : q.colour = 0 <;> cases e2 : q.broken <;> simp [e1, e2, badLamp]
    rw [hI']
    have hB : anyBad x = (x.findIdx? badLamp).isSome := by rw [findIdx_some]; rfl
    rw [hB]
    cases x.findIdx? badLamp <;> simp
  simp [iAreLamps_v l x h hx, key]
  cases areLamps l x <;> cases anyBad x <;> rfl

def lightsNow (t : Town) : List Int := if mode t.paths t.lamps t.power = 0 then lightsOf t.paths t.control else t.paths.map fun _ => 0
theorem sLightsNow_v (t : Town) (h : SmTown t) : S_sLightsNow t = some (lightsNow t) := by
  obtain ⟨h0, h1, h2, h3, h4⟩ := h
  have e1 : S_sModeOf t = some (mode t.paths t.lamps t.power) := by unfold S_sModeOf; simp [sModeFor_v _ _ _ h0 h3]
  unfold S_sLightsNow lightsNow
  simp only [rws_path, rws_want, rws_lamp, rws_i, rws_note_ss, eta_Control, eta_Town, e1, bnd_some, bnd_id', sLightsOf_v _ _ h0 h1, sl33All_v t 0 h0, cnd_if, beq_iff_eq]
  split <;> rfl
theorem iLightsNow_v (t : Town) (h : SmTown t) : S_iLightsNow t = some (lightsNow t) := by
  obtain ⟨h0, h1, h2, h3, h4⟩ := h
  have e1 : S_iModeOf t = some (mode t.paths t.lamps t.power) := by unfold S_iModeOf; simp [iModeFor_v _ _ _ h0 h3]
  unfold S_iLightsNow lightsNow
  simp only [rws_path, rws_want, rws_lamp, rws_i, rws_note_ss, eta_Control, eta_Town, e1, bnd_some, bnd_id', iLightsOf_v _ _ h0 h1, iall_v _ 0 h0, cnd_if, bne_iff_ne]
  by_cases c : mode t.paths t.lamps t.power = 0 <;> simp [c]
def clear2 (x q : Path × Int) : Bool := !(x.2 != 0 && q.2 != 0 && conflict x.1 q.1)
def goS (z : List (Path × Int)) : Nat → List (Path × Int) → Bool
  | _, [] => true
  | k, x :: r => inR x.2 0 2 && (z.take k).all (clear2 x) && goS z (k + 1) r
def isSafe (l : List Path) (v : List Int) : Bool := arePaths l && decide (v.length = l.length) && goS (l.zip v) 0 (l.zip v)
theorem zip_at {l : List Path} {v : List Int} {k : Nat} {x : Path × Int} (h : (l.zip v)[k]? = some x) : l[k]? = some x.1 ∧ v[k]? = some x.2 := by
  rw [List.getElem?_zip_eq_some] at h
  exact h
theorem sIsSafeLights_v (l : List Path) (v : List Int) (h : Sm l) : S_sIsSafeLights l v = some (isSafe l v) := by
  have hl := h
  unfold Sm at hl
  unfold S_sIsSafeLights isSafe
  simp only [rws_path, rws_i, len_path, len_i, sArePaths_v l h, bnd_some]
  cases hp : arePaths l with
  | false => simp
  | true =>
  by_cases hn : v.length = l.length
  · have hz : (l.zip v).length = l.length := by rw [List.length_zip]; omega
    rw [show (((v.length : Nat) : Int) != ((l.length : Nat) : Int)) = false by simp [hn]]
    simp [hn]
    refine (iter_list0 (l.zip v) (by omega) (fun k (_ : Unit) => (l, v, (k : Int))) () (fun s k _ => some (goS (l.zip v) k s)) rfl ?_ ?_).trans rfl
    · intro rec _
      simp [goS, hz]
    · intro rec k x _ hx hk hr
      obtain ⟨x1, x2⟩ := zip_at hx
      have hr' := hr ()
      simp only [Int.natCast_succ] at hr'
      have hk' : k < l.length := by omega
      have hlen : ((l.zip v).take k).length = k := by rw [List.length_take]; omega
      simp [hk', getZ_at x2, sl1In_r, goS]
      cases inR x.2 0 2 with
      | false => simp
      | true =>
      simp
      refine (all_loop ((l.zip v).take k) (clear2 x) (by omega) (fun j => (l, v, (k : Int), (j : Int))) (some (goS (l.zip v) (k + 1) ((l.zip v).drop (k + 1)))) (some false) rfl ?_ ?_).trans ?_
      · intro rec'
        simp [hlen, W_n1 (show k ≤ 9223372036854775806 by omega), hr']
      · intro rec' j y hy hj
        obtain ⟨y1, y2⟩ := zip_at (take_at' hy)
        have hj' : j < k := by omega
        simp [hj', getZ_at x2, getZ_at y2, getZ_at x1, getZ_at y1, sConflict_v, W_n1 (show j ≤ 9223372036854775806 by omega), clear2, cnd_if]
        by_cases c1 : x.2 = 0 <;> by_cases c2 : y.2 = 0 <;> cases c3 : conflict x.1 y.1 <;> simp [c1, c2, c3]
      · generalize ((l.zip v).take k).all (clear2 x) = A
        cases A <;> simp
  · rw [show (((v.length : Nat) : Int) != ((l.length : Nat) : Int)) = true by simp; omega]
    simp [hn]
theorem iIsSafeLights_v (l : List Path) (v : List Int) (h : Sm l) : S_iIsSafeLights l v = some (isSafe l v) := by
  have hl := h
  unfold Sm at hl
  unfold S_iIsSafeLights isSafe
  simp only [rws_path, rws_i, len_path, len_i, iArePaths_v l h, bnd_some]
  cases hp : arePaths l with
  | false => simp
  | true =>
  by_cases hn : v.length = l.length
  · have hz : (l.zip v).length = l.length := by rw [List.length_zip]; omega
    rw [show (((v.length : Nat) : Int) != ((l.length : Nat) : Int)) = false by simp [hn]]
    simp [hn]
    refine (iter_list0 (l.zip v) (by omega) (fun k (_ : Unit) => (l, v, l, (l.length : Int), (k : Int))) () (fun s k _ => some (goS (l.zip v) k s)) rfl ?_ ?_).trans rfl
    · intro rec _
      simp [goS, hz]
    · intro rec k x _ hx hk hr
      obtain ⟨x1, x2⟩ := zip_at hx
      have hr' := hr ()
      simp only [Int.natCast_succ] at hr'
      have hk' : k < l.length := by omega
      have hkl : k ≤ l.length := by omega
      have hlen : ((l.zip v).take k).length = k := by rw [List.length_take]; omega
      have hlen2 : (l.take k).length = k := by rw [List.length_take]; omega
      simp [hk', hkl, getZ_at x1, getZ_at x2, iInRange_r, goS]
      cases inR x.2 0 2 with
      | false => simp
      | true =>
      simp
      refine (all_loop ((l.zip v).take k) (clear2 x) (by omega) (fun j => ((l, v, (k : Int), l, (l.length : Int), (k : Int), l.take k, ((l.take k).length : Int), (j : Int)), x.1)) (some (goS (l.zip v) (k + 1) ((l.zip v).drop (k + 1)))) (some false) (by simp; omega) ?_ ?_).trans ?_
      · intro rec'
        simp [hlen, hlen2, W_n1 (show k ≤ 9223372036854775806 by omega), hr']
      · intro rec' j y hy hj
        obtain ⟨y1, y2⟩ := zip_at (take_at' hy)
        have hj' : j < k := by omega
        have y3 : (l.take k)[j]? = some y.1 := by rw [List.getElem?_take, if_pos hj']; exact y1
        simp [hlen2, hj', getZ_at x2, getZ_at y2, getZ_at y3, iConflict_v, W_n1 (show j ≤ 9223372036854775806 by omega), clear2, cnd_if, hkl]
        by_cases c1 : x.2 = 0 <;> by_cases c2 : y.2 = 0 <;> cases c3 : conflict x.1 y.1 <;> simp [c1, c2, c3]
      · generalize ((l.zip v).take k).all (clear2 x) = A
        cases A <;> simp
  · rw [show (((v.length : Nat) : Int) != ((l.length : Nat) : Int)) = true by simp; omega]
    simp [hn]
theorem lFnExactAreLightsSafe_v (a : Town) (h : OkTown a) : S_lFnExactAreLightsSafe a = some true := by
  obtain ⟨r, e, d⟩ := lszTown_v a h 1048576 (by decide) (by decide)
  unfold S_lFnExactAreLightsSafe
  simp only [rws_note_ss, eta_Control, eta_Town]
  rcases d with d | ⟨_, _, hs⟩
  · simp [e, d]
  · have e1 : S_sAreLightsSafe a = some (isSafe a.paths (lightsNow a)) := by unfold S_sAreLightsSafe; simp [sLightsNow_v a hs, sIsSafeLights_v _ _ hs.1]
    have e2 : S_iAreLightsSafe a = some (isSafe a.paths (lightsNow a)) := by unfold S_iAreLightsSafe; simp [iLightsNow_v a hs, iIsSafeLights_v _ _ hs.1]
    simp [e, show ¬ r < 0 by omega, ltoTown_v a hs, e1, e2, leqTown_v a a hs, cnd_if]
end Go.Sh
