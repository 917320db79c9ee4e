/- Towns that are valid. -/
import Derived.Test.YteaoohmablanhaaQ4
set_option linter.all false
namespace Go.Sh
open Go.Fx
def wantOk (l : List Path) (x : Want) : Bool := !decide (findPath l x.path < 0) && inR x.wait 0 100000
def goW (l : List Path) : Option Int → List Want → Bool
  | _, [] => true
  | pv, x :: r => wantOk l x && later pv x.path && goW l (some x.path) r
def areWants (l : List Path) (w : List Want) : Bool := arePaths l && goW l none w
def prevW (l : List Want) (k : Nat) : Option Int := if k = 0 then none else (l[k - 1]?).map (·.path)
theorem prevW_succ {l : List Want} {k : Nat} {x : Want} (h : l[k]? = some x) : prevW l (k + 1) = some x.path := by
  unfold prevW
  simp [h]
theorem sAreWants_v (l : List Path) (w : List Want) (hl : Sm l) (h : Sm w) : S_sAreWants l w = some (areWants l w) := by
  unfold Sm at h
  unfold S_sAreWants areWants
  simp
  refine (iter_list0 w (by omega) (fun k (_ : Unit) => (l, w, (k : Int))) () (fun s k _ => some (arePaths l && goW l (prevW w k) s)) rfl ?_ ?_).trans ?_
  · intro rec _
    simp [goW, sArePaths_v l hl]
  · intro rec k x _ hx hk hr
    have hr' := hr ()
    simp only [Int.natCast_succ] at hr'
    simp [hk, getZ_at hx, sFindPath_v _ _ hl, sl1In_r, W_n1 (show k ≤ 9223372036854775806 by omega), goW, wantOk]
    by_cases hf : findPath l x.path < 0
    · simp [hf]
    cases inR x.wait 0 100000 with
    | false => simp [hf]
    | true =>
      simp [hf]
      by_cases h0 : k = 0
      · subst h0
        have hr'' : rec (l, w, 1) = some (arePaths l && goW l (some x.path) (List.drop 1 w)) := by simpa [prevW_succ hx] using hr'
        simp [hr'', prevW, later]
      · have hz : w[k - 1]? = some w[k - 1] := List.getElem?_eq_getElem (by omega)
        have hk1 : W ((k : Int) - 1) = ((k - 1 : Nat) : Int) := by rw [W_id (by omega) (by omega)]; omega
        rw [show prevW w k = some (w[k - 1]).path by unfold prevW; simp [h0, hz]]
        simp [show 0 < k by omega, hk1, getZ_at hz, hr', prevW_succ hx, later, cnd_if]
        by_cases h1 : x.path ≤ (w[k - 1]).path
        · simp [h1, show ¬ ((w[k - 1]).path < x.path) by omega]
        · simp [h1, show (w[k - 1]).path < x.path by omega]
  · simp [prevW]
theorem iAreWants_v (l : List Path) (w : List Want) (hl : Sm l) (h : Sm w) : S_iAreWants l w = some (areWants l w) := by
  unfold Sm at h
  unfold S_iAreWants areWants
  simp [iArePaths_v l hl]
  cases arePaths l with
  | false => rfl
  | true =>
  simp
  refine (iter_list0 w (by omega) (fun k (_ : Unit) => (l, w, w, (w.length : Int), (k : Int))) () (fun s k _ => some (goW l (prevW w k) s)) rfl ?_ ?_).trans ?_
  · intro rec _
    simp [goW]
  · intro rec k x _ hx hk hr
    have hr' := hr ()
    simp only [Int.natCast_succ] at hr'
    simp [hk, getZ_at hx, iFindPath_v _ _ hl, iInRange_r, W_n1 (show k ≤ 9223372036854775806 by omega), goW, wantOk]
    by_cases hf : findPath l x.path < 0
    · simp [hf]
    cases inR x.wait 0 100000 with
    | false => simp [hf]
    | true =>
      simp [hf]
      by_cases h0 : k = 0
      · subst h0
        have hr'' : rec (l, w, w, (w.length : Int), 1) = some (goW l (some x.path) (List.drop 1 w)) := by simpa [prevW_succ hx] using hr'
        simp [hr'', prevW, later]
      · have hz : w[k - 1]? = some w[k - 1] := List.getElem?_eq_getElem (by omega)
        have hk1 : W ((k : Int) - 1) = ((k - 1 : Nat) : Int) := by rw [W_id (by omega) (by omega)]; omega
        rw [show prevW w k = some (w[k - 1]).path by unfold prevW; simp [h0, hz]]
        simp [show 0 < k by omega, hk1, getZ_at hz, hr', prevW_succ hx, later, cnd_if]
        by_cases h1 : x.path ≤ (w[k - 1]).path
        · simp [h1, show ¬ ((w[k - 1]).path < x.path) by omega]
        · simp [h1, show (w[k - 1]).path < x.path by omega]
  · simp [prevW]
def isBus (l : List Path) (id : Int) : Bool := !decide (findPath l id < 0) && (pathAt l id).kind == 3
def isPrio (l : List Path) (x : Prio) : Bool := arePaths l && (decide (x = ⟨0, 0⟩) || (isBus l x.path && inR x.left 1 20))
theorem eqB_prio0 (p : Prio) : eqB [I p.path, I p.left] [I 0, I 0] = decide (p = ⟨0, 0⟩) := by
  cases p; simp [eqB, eqV]; grind
theorem sIsPrio_v (l : List Path) (x : Prio) (hl : Sm l) : S_sIsPrio l x = some (isPrio l x) := by
  unfold S_sIsPrio isPrio isBus
  simp only [rws_path, eqB_prio0, sArePaths_v l hl, sFindPath_v _ _ hl, bnd_some, geti_path, sl1In_r, cnd_if]
  by_cases h0 : x = ⟨0, 0⟩
  · simp [h0]
  · simp only [h0, decide_false, Bool.false_or, Bool.false_eq_true, if_false]
    by_cases hf : findPath l x.path < 0
    · simp [hf, show ¬ (findPath l x.path ≥ 0) by omega]
    · simp [hf, show (0 : Int) ≤ findPath l x.path by omega, getZ_find hf]
      cases arePaths l <;> simp
      by_cases hk : (pathAt l x.path).kind = 3 <;> simp [hk]
theorem iIsPrio_v (l : List Path) (x : Prio) (hl : Sm l) : S_iIsPrio l x = some (isPrio l x) := by
  unfold S_iIsPrio isPrio isBus S_iisBus
  simp only [rws_path, eqB_prio0, iArePaths_v l hl, iFindPath_v _ _ hl, bnd_some, geti_path, iInRange_r, cnd_if]
  by_cases h0 : x = ⟨0, 0⟩
  · simp [h0]
    cases arePaths l <;> simp
  · simp only [h0, decide_false, Bool.false_or, Bool.false_eq_true, if_false]
    by_cases hf : findPath l x.path < 0
    · simp [hf, show ¬ (findPath l x.path ≥ 0) by omega]
    · simp [hf, show (0 : Int) ≤ findPath l x.path by omega, getZ_find hf]
      cases arePaths l <;> simp
      by_cases hk : (pathAt l x.path).kind = 3 <;> simp [hk]
def goU (p : List Path) : List Note → Int
  | [] => -1
  | x :: r => if isSafe p x.lights = true then goU p r else x.second
def firstUnsafe (p : List Path) (l : List Note) : Int := if isRecord l = true then goU p l else -1
theorem sFirstUnsafe_v (p : List Path) (l : List Note) (hp : Sm p) (h : Sm l ∧ ∀ y ∈ l, SmNote y) : S_sFirstUnsafe p l = some (firstUnsafe p l) := by
  have h1 := h.1
  unfold Sm at h1
  unfold S_sFirstUnsafe firstUnsafe
  simp
  refine (iter_list0 l (by omega) (fun k (_ : Unit) => (p, l, (k : Int))) () (fun s _ _ => some (if isRecord l = true then goU p s else -1)) rfl ?_ ?_).trans rfl
  · intro rec _
    simp [goU]
  · intro rec k x _ hx hk hr
    have hr' := hr ()
    simp only [Int.natCast_succ] at hr'
    simp [hk, getZ_at hx, sIsRecord_v l h, sIsSafeLights_v _ _ hp, W_n1 (show k ≤ 9223372036854775806 by omega), hr', goU, cnd_if]
    cases isRecord l <;> simp
    cases isSafe p x.lights <;> simp
theorem iFirstUnsafe_v (p : List Path) (l : List Note) (hp : Sm p) (h : Sm l ∧ ∀ y ∈ l, SmNote y) : S_iFirstUnsafe p l = some (firstUnsafe p l) := by
  have h1 := h.1
  unfold Sm at h1
  unfold S_iFirstUnsafe firstUnsafe
  simp [iIsRecord_v l h]
  cases isRecord l with
  | false => rfl
  | true =>
  simp
  refine (iter_list0 l (by omega) (fun k (_ : Unit) => (p, l, (l.length : Int), (k : Int))) () (fun s _ _ => some (goU p s)) rfl ?_ ?_).trans rfl
  · intro rec _
    simp [goU]
  · intro rec k x _ hx hk hr
    have hr' := hr ()
    simp only [Int.natCast_succ] at hr'
    simp [hk, getZ_at hx, iIsSafeLights_v _ _ hp, W_n1 (show k ≤ 9223372036854775806 by omega), hr', goU, cnd_if]
    cases isSafe p x.lights <;> simp
def lastSec (l : List Note) : Int := match l.getLast? with | some e => e.second | none => 0
def isTown (t : Town) : Bool :=
  isControl t.paths t.control && areWants t.paths t.wants && isPrio t.paths t.prio && areLamps t.paths t.lamps && isRecord t.record && !t.record.isEmpty &&
  decide (firstUnsafe t.paths t.record = -1) && decide (firstLen t.record = t.paths.length) && decide (lastSec t.record ≤ t.now) && inR t.books 0 1000 && inR t.now 0 1000000
theorem last_at {l : List Note} (h : l ≠ []) : ∃ e, l[l.length - 1]? = some e ∧ lastSec l = e.second ∧ e ∈ l := by
  refine ⟨l.getLast h, ?_, ?_, List.getLast_mem h⟩
  · rw [List.getLast_eq_getElem h]
    exact List.getElem?_eq_getElem _
  · unfold lastSec
    rw [List.getLast?_eq_some_getLast h]
theorem sIsTown_v (t : Town) (h : SmTown t) : S_sIsTown t = some (isTown t) := by
  obtain ⟨h0, h1, h2, h3, h4⟩ := h
  have h5 := h4.1
  unfold Sm at h5
  unfold S_sIsTown isTown
  simp only [rws_path, rws_i, rws_want, rws_lamp, rws_note_ss, eta_Control, len_note, len_i, len_path, len0, sIsControl_v _ _ h0 h1, sAreWants_v _ _ h0 h2, sIsPrio_v _ _ h0, sAreLamps_v _ _ h0 h3, sIsRecord_v _ h4, sFirstUnsafe_v _ _ h0 h4, sl1In_r, bnd_some]
  cases isControl t.paths t.control <;> simp
  cases areWants t.paths t.wants <;> simp
  cases isPrio t.paths t.prio <;> simp
  cases areLamps t.paths t.lamps <;> simp
  cases hR : isRecord t.record <;> simp
  cases he : t.record.isEmpty <;> simp
  have hne : t.record ≠ [] := by intro e; rw [e] at he; cases he
  obtain ⟨e, e1, e2, e3⟩ := last_at hne
  have hpos := List.length_pos_iff.2 hne
  have hk1 : W ((t.record.length : Int) - 1) = ((t.record.length - 1 : Nat) : Int) := by rw [W_id (by omega) (by omega)]; omega
  rw [hk1, getZ_at e1, e2, (isRecord_len hR e e3).1]
  by_cases c1 : firstUnsafe t.paths t.record = -1 <;> simp [c1, cnd_if]
  by_cases c2 : firstLen t.record = t.paths.length
  case neg =>
    simp [c2]
    intro hc
    omega
  simp only [c2]
  by_cases c3 : e.second ≤ t.now <;> simp [c3]
  cases inR t.books 0 1000 <;> simp
theorem iIsTown_v (t : Town) (h : SmTown t) : S_iIsTown t = some (isTown t) := by
  obtain ⟨h0, h1, h2, h3, h4⟩ := h
  have h5 := h4.1
  unfold Sm at h5
  unfold S_iIsTown isTown
  simp only [rws_path, rws_i, rws_want, rws_lamp, rws_note_ss, eta_Control, len_note, len_i, len_path, iIsControl_v _ _ h0 h1, iAreWants_v _ _ h0 h2, iIsPrio_v _ _ h0, iAreLamps_v _ _ h0 h3, iIsRecord_v _ h4, iFirstUnsafe_v _ _ h0 h4, iInRange_r, bnd_some]
  cases isControl t.paths t.control <;> simp
  cases areWants t.paths t.wants <;> simp
  cases isPrio t.paths t.prio <;> simp
  cases areLamps t.paths t.lamps <;> simp
  cases hR : isRecord t.record <;> simp
  by_cases c1 : firstUnsafe t.paths t.record = -1 <;> simp [c1, cnd_if]
  cases he : t.record.isEmpty with
  | true =>
    have : t.record = [] := List.isEmpty_iff.1 he
    simp [this]
  | false =>
  have hne : t.record ≠ [] := by intro e; rw [e] at he; cases he
  obtain ⟨e, e1, e2, e3⟩ := last_at hne
  have hpos := List.length_pos_iff.2 hne
  have hk1 : W ((t.record.length : Int) - 1) = ((t.record.length - 1 : Nat) : Int) := by rw [W_id (by omega) (by omega)]; omega
  have hz : t.record[0]? = some t.record[0] := List.getElem?_eq_getElem hpos
  simp only [hpos, decide_true, cnd_tt, getZ0 hz, hk1, getZ_at e1, e2, ← firstLen_at hz]
  by_cases c2 : firstLen t.record = t.paths.length
  case neg =>
    simp [c2]
    intro hc
    omega
  simp only [c2]
  by_cases c3 : e.second ≤ t.now <;> simp [c3]
  cases inR t.books 0 1000 <;> simp
theorem lFnExactIsTown_v (a : Town) (h : OkTown a) : S_lFnExactIsTown a = some true := by
  obtain ⟨r, e, d⟩ := lszTown_v a h 1048576 (by decide) (by decide)
  unfold S_lFnExactIsTown
  simp only [rws_note_ss, eta_Control, eta_Town]
  rcases d with d | ⟨_, _, hs⟩
  · simp [e, d]
  · simp [e, show ¬ r < 0 by omega, ltoTown_v a hs, sIsTown_v a hs, iIsTown_v a hs, leqTown_v a a hs, cnd_if]
end Go.Sh
