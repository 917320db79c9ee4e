/- Reports. -/
import Derived.Test.YteaoohmablanhaaD2
set_option linter.all false
namespace Go.Sh
open Go.Fx
/-- rounds that count down -/
theorem iter_downN {V β : Type} {F : (V → Option β) → V → Option β} (st : Nat → V) (G : Nat → Option β) (B : Nat) (h0 : ∀ rec, F rec (st 0) = G 0)
    (h1 : ∀ rec k, k < B → rec (st k) = G k → F rec (st (k + 1)) = G (k + 1)) : ∀ n k, k ≤ B → k < n → iter F n (st k) = G k
  | 0, k, _, h => by omega
  | n + 1, 0, _, _ => by rw [iter_succ]; exact h0 _
  | n + 1, k + 1, hk, h => by
    rw [iter_succ]
    exact h1 _ k (by omega) (iter_downN st G B h0 h1 n k (by omega) (by omega))
theorem iter_down {V β : Type} {F : (V → Option β) → V → Option β} (st : Nat → V) (G : Nat → Option β) (k : Nat) (hk : k ≤ 4611686018427387903) {v : V} (hv : v = st k) (h0 : ∀ rec, F rec (st 0) = G 0)
    (h1 : ∀ rec j, j < k → rec (st j) = G j → F rec (st (j + 1)) = G (j + 1)) : iter F NN v = G k := by
  rw [hv]
  exact iter_downN st G k h0 h1 NN k (Nat.le_refl _) (NN_big hk)
def lightShown (l : List Note) (i s : Int) : Int := match entry l s with | some e => lightOf e i | none => -1
theorem lightOf_lt {e : Note} {i : Int} (h : lightOf e i ≠ -1) : ∃ m : Nat, i = (m : Int) ∧ m < e.lights.length := by
  unfold lightOf at h
  split at h
  · rename_i h0
    refine ⟨i.toNat, by omega, ?_⟩
    split at h
    · rename_i v hv
      exact (List.getElem?_eq_some_iff.1 hv).1
    · exact absurd rfl h
  · exact absurd rfl h
theorem lightOf_at {e : Note} {m : Nat} {v : Int} (h : e.lights[m]? = some v) : lightOf e (m : Int) = v := by
  unfold lightOf
  rw [if_pos (by omega), Int.toNat_natCast, h]
theorem sLightShown_v (l : List Note) (i s : Int) (h : Sm l ∧ ∀ y ∈ l, SmNote y) : S_sLightShown l i s = some (lightShown l i s) := by
  unfold S_sLightShown lightShown
  simp only [rws_note_ss, sShownAt_v l s h, bnd_some, len_i, sl1In_r, geti_i, shownAt]
  rcases entry_cases l s with ⟨h1, h2⟩ | ⟨j, x, h1, h2, h3, _⟩
  · simp only [h1, List.length_nil]
    rw [show inR i 0 (W (((0 : Nat) : Int) - 1)) = false by rw [W_id (by omega) (by omega)]; unfold inR; by_cases c : 0 ≤ i <;> simp [c]; omega]
    rfl
  · simp only [h3]
    have hx := h.2 x (mem_at h1)
    unfold SmNote Sm at hx
    rw [W_id (by omega) (by omega)]
    unfold inR lightOf
    by_cases c : 0 ≤ i
    · obtain ⟨m, rfl⟩ : ∃ m : Nat, i = (m : Int) := ⟨i.toNat, by omega⟩
      by_cases c2 : m < x.lights.length
      · have hv : x.lights[m]? = some x.lights[m] := List.getElem?_eq_getElem c2
        simp [show (m : Int) ≤ (x.lights.length : Int) - 1 by omega, getZ_at hv, hv]
      · have hv : x.lights[m]? = none := List.getElem?_eq_none (by omega)
        simp [show ¬ (m : Int) ≤ (x.lights.length : Int) - 1 by omega, hv]
    · simp [c]
theorem iLightShown_v (l : List Note) (i s : Int) (h : Sm l ∧ ∀ y ∈ l, SmNote y) : S_iLightShown l i s = some (lightShown l i s) := by
  unfold S_iLightShown lightShown
  simp only [rws_note_ss, ientryAt_v l s h, bnd_some, geti_note_ss, rws_i, eta_Note, ilightOf_v]
  rcases entry_cases l s with ⟨h1, h2⟩ | ⟨j, x, h1, h2, h3, _⟩
  · simp [h1, h2]
  · simp only [h2, h3, show ¬ ((j : Int) < 0) by omega, decide_false, cnd_ff, getZ_at h1]
def back (l : List Note) (i : Int) : Nat → Nat
  | 0 => 0
  | k + 1 => match l[k]? with
    | some e => if lightOf e i = 1 then back l i k else k + 1
    | none => k + 1
def secAt (l : List Note) (k : Nat) : Int := match l[k]? with | some e => e.second | none => 0
def greenSince (l : List Note) (i s : Int) : Int := if lightShown l i s = 1 then W (s - secAt l (back l i (entryAt l s).toNat)) else -1
theorem back_le (l : List Note) (i : Int) : ∀ k, back l i k ≤ k
  | 0 => Nat.le_refl _
  | k + 1 => by
    rw [back]
    have := back_le l i k
    split
    · split <;> omega
    · omega
theorem iGreenSince_v (l : List Note) (i s : Int) (h : Sm l ∧ ∀ y ∈ l, SmNote y) : S_iGreenSince l i s = some (greenSince l i s) := by
  have hl := h.1
  unfold Sm at hl
  unfold S_iGreenSince greenSince lightShown
  simp only [rws_note_ss, ientryAt_v l s h, bnd_some, geti_note_ss, rws_i, eta_Note, ilightOf_v]
  rcases entry_cases l s with ⟨h1, h2⟩ | ⟨j, x, h1, h2, h3, _⟩
  · simp [h1, h2]
  · have hj := (List.getElem?_eq_some_iff.1 h1).1
    simp only [h2, h3, show ¬ ((j : Int) < 0) by omega, decide_false, cnd_ff, getZ_at h1, Int.toNat_natCast]
    by_cases c : lightOf x i = 1
    · simp only [c, bne_self_eq_false, cnd_ff, if_true]
      refine (iter_down (fun k => (l, i, s, (k : Int))) (fun k => if k ≤ j then some (W (s - secAt l (back l i k))) else none) j (by omega) rfl ?_ ?_).trans (by simp)
      · intro rec
        have hz : l[0]? = some l[0] := List.getElem?_eq_getElem (by omega)
        simp [back, secAt, getZ0 hz, hz]
      · intro rec k hk hr
        have hk1 : W (((k + 1 : Nat) : Int) - 1) = (k : Int) := by rw [W_id (by omega) (by omega)]; omega
        have hz : l[k]? = some l[k] := List.getElem?_eq_getElem (by omega)
        have hz1 : l[k + 1]? = some l[k + 1] := List.getElem?_eq_getElem (by omega)
        simp only [hk1, getZ_at hz, getZ_at hz1, show ((k + 1 : Nat) : Int) > 0 by omega, decide_true, cnd_tt, hr, back, hz, if_pos (show k + 1 ≤ j by omega), if_pos (show k ≤ j by omega)]
        by_cases c2 : lightOf l[k] i = 1
        · simp [c2]
        · have c3 : (lightOf l[k] i == 1) = false := by simp [c2]
          simp only [c3, cnd_ff, if_neg c2]
          simp [secAt, hz1]
    · have : (lightOf x i != 1) = true := by simp [c]
      simp [this, c]
theorem sGreenSince_v (l : List Note) (i s : Int) (h : Sm l ∧ ∀ y ∈ l, SmNote y) : S_sGreenSince l i s = some (greenSince l i s) := by
  have hl := h.1
  unfold Sm at hl
  unfold S_sGreenSince greenSince
  simp only [rws_note_ss, sLightShown_v l i s h, sl28At_v l s h, bnd_some, geti_note_ss, geti_i]
  by_cases c : lightShown l i s = 1
  · simp only [c, bne_self_eq_false, cnd_ff, if_true]
    unfold lightShown at c
    rcases entry_cases l s with ⟨h1, h2⟩ | ⟨j, x, h1, h2, h3, hR⟩
    · rw [h1] at c; simp at c
    rw [h3] at c
    have hj := (List.getElem?_eq_some_iff.1 h1).1
    have hL := isRecord_len hR
    obtain ⟨m, rfl, hm⟩ := lightOf_lt (e := x) (i := i) (by simp only at c; rw [c]; omega)
    rw [(hL x (mem_at h1)).1] at hm
    rw [h2]
    refine (iter_down (fun k => (l, (m : Int), s, (k : Int))) (fun k => if k ≤ j then some (W (s - secAt l (back l (m : Int) k))) else none) j (by omega) rfl ?_ ?_).trans (by simp)
    · intro rec
      have hz : l[0]? = some l[0] := List.getElem?_eq_getElem (by omega)
      simp [back, secAt, getZ0 hz, hz]
    · intro rec k hk hr
      have hk1 : W (((k + 1 : Nat) : Int) - 1) = (k : Int) := by rw [W_id (by omega) (by omega)]; omega
      have hz : l[k]? = some l[k] := List.getElem?_eq_getElem (by omega)
      have hz1 : l[k + 1]? = some l[k + 1] := List.getElem?_eq_getElem (by omega)
      have hmk : m < l[k].lights.length := by rw [(hL _ (mem_at hz)).1]; exact hm
      have hv : l[k].lights[m]? = some l[k].lights[m] := List.getElem?_eq_getElem hmk
      simp only [hk1, getZ_at hz, getZ_at hz1, getZ_at hv, show ((k + 1 : Nat) : Int) > 0 by omega, decide_true, cnd_tt, hr, back, hz, lightOf_at hv, if_pos (show k + 1 ≤ j by omega), if_pos (show k ≤ j by omega)]
      by_cases c2 : l[k].lights[m] = 1
      · simp [c2]
      · have c3 : (l[k].lights[m] == 1) = false := by simp [c2]
        simp only [c3, cnd_ff, if_neg c2]
        simp [secAt, hz1]
  · have : (lightShown l i s != 1) = true := by simp [c]
    simp [this, c]
/-! reports -/
def goO (a : Path) : List (Path × Int) → Int → Int
  | [], o => o
  | x :: r, o => goO a r (if o = 0 ∧ x.2 ≠ 0 ∧ conflict a x.1 = true then x.1.id else o)
def zeroRep : Report := ⟨0, 0, 0, 0, 0⟩
def report (t : Town) (p s : Int) : Report × Bool :=
  if isTown t = false ∨ findPath t.paths p < 0 ∨ t.now < s then (zeroRep, false) else
  match entry t.record s with
  | none => (zeroRep, false)
  | some e => (⟨p, s, lightOf e (findPath t.paths p), greenSince t.record (findPath t.paths p) s, goO (pathAt t.paths p) (t.paths.zip e.lights) 0⟩, true)
theorem town_len {t : Town} (h : isTown t = true) {e : Note} (he : e ∈ t.record) : e.lights.length = t.paths.length ∧ ∀ v ∈ e.lights, 0 ≤ v := by
  simp only [isTown, Bool.and_eq_true, decide_eq_true_eq] at h
  obtain ⟨⟨⟨⟨⟨⟨⟨⟨⟨⟨h1, h2⟩, h3⟩, h4⟩, h5⟩, h6⟩, h7⟩, h8⟩, h9⟩, h10⟩, h11⟩ := h
  have := isRecord_len h5 e he
  exact ⟨this.1.trans h8, this.2.2.2⟩
theorem sReportOf_v (t : Town) (p s : Int) (h : SmTown t) : S_sReportOf t p s = some (report t p s) := by
  obtain ⟨h0, h1, h2, h3, h4⟩ := h
  have hp := h0
  unfold Sm at hp
  unfold S_sReportOf S_sl38Index report
  simp only [rws_path, rws_i, rws_want, rws_lamp, rws_note_ss, eta_Control, eta_Town, sFindPath_v _ _ h0, sIsTown_v t ⟨h0, h1, h2, h3, h4⟩, sShownAt_v _ _ h4, sGreenSince_v _ _ _ h4, bnd_some, len_i, geti_i, geti_path]
  cases hT : isTown t with
  | false => rfl
  | true =>
  by_cases hf : findPath t.paths p < 0
  · simp [hf]; rfl
  by_cases hn : t.now < s
  · simp [hf, hn]; rfl
  simp only [hf, hn, decide_false, cnd_ff, Bool.not_true, gt_iff_lt, false_or, Bool.true_eq_false, if_false, shownAt]
  rcases entry_cases t.record s with ⟨c1, c2⟩ | ⟨j, x, c1, c2, c3, _⟩
  · simp only [c1]; rfl
  simp only [c3, Bool.not_true, cnd_ff]
  obtain ⟨k, y, k1, k2, k3⟩ := findPath_lt hf
  obtain ⟨q1, q2⟩ := town_len hT (mem_at c1)
  have hkl := (List.getElem?_eq_some_iff.1 k1).1
  have hv : x.lights[k]? = some x.lights[k] := List.getElem?_eq_getElem (by omega)
  have hpa : pathAt t.paths p = y := by unfold pathAt; rw [k2, Int.toNat_natCast, k1]; rfl
  rw [k2, getZ_at hv, lightOf_at hv, hpa]
  have hz : (t.paths.zip x.lights).length = t.paths.length := by rw [List.length_zip]; omega
  refine (iter_list0 (t.paths.zip x.lights) (by omega) (fun n o => (((k : Int), x.lights, (n : Int)), t, zeroRep, (⟨p, s, x.lights[k], greenSince t.record (k : Int) s, o⟩ : Report))) 0 (fun r _ o => some ((⟨p, s, x.lights[k], greenSince t.record (k : Int) s, goO y r o⟩ : Report), true)) ?_ ?_ ?_).trans rfl
  · rfl
  · intro rec o
    simp [goO, hz, q1]
  · intro rec n z o hz1 hn1 hr
    simp only [Int.natCast_succ] at hr
    obtain ⟨z1, z2⟩ := zip_at hz1
    have hn2 : n < x.lights.length := by omega
    simp [hn2, getZ_at z1, getZ_at z2, getZ_at k1, sConflict_v, W_n1 (show n ≤ 9223372036854775806 by omega), goO]
    by_cases o0 : o = 0
    · subst o0
      by_cases l0 : z.2 = 0
      · simp [l0, hr]
      · have : (z.2 != 0) = true := by simp [l0]
        simp [this, l0]
        cases conflict y z.1 <;> simp [hr]
    · have : (o == 0) = false := by simp [o0]
      simp [this, o0, hr]
theorem iReportOf_v (t : Town) (p s : Int) (h : SmTown t) : S_iReportOf t p s = some (report t p s) := by
  obtain ⟨h0, h1, h2, h3, h4⟩ := h
  have hp := h0
  unfold Sm at hp
  unfold S_iReportOf report
  simp only [rws_path, rws_i, rws_want, rws_lamp, rws_note_ss, eta_Control, eta_Town, iFindPath_v _ _ h0, iIsTown_v t ⟨h0, h1, h2, h3, h4⟩, iLightShown_v _ _ _ h4, iGreenSince_v _ _ _ h4, bnd_some, len_path, geti_i, geti_path]
  cases hT : isTown t with
  | false => rfl
  | true =>
  by_cases hf : findPath t.paths p < 0
  · simp [hf]; rfl
  by_cases hn : t.now < s
  · simp [hf, hn]; rfl
  simp only [hf, hn, decide_false, cnd_ff, Bool.not_true, gt_iff_lt, false_or, Bool.true_eq_false, if_false, lightShown]
  rcases entry_cases t.record s with ⟨c1, c2⟩ | ⟨j, x, c1, c2, c3, _⟩
  · simp only [c1]; rfl
  simp only [c3]
  obtain ⟨k, y, k1, k2, k3⟩ := findPath_lt hf
  obtain ⟨q1, q2⟩ := town_len hT (mem_at c1)
  have hkl := (List.getElem?_eq_some_iff.1 k1).1
  have hv : x.lights[k]? = some x.lights[k] := List.getElem?_eq_getElem (by omega)
  have hpa : pathAt t.paths p = y := by unfold pathAt; rw [k2, Int.toNat_natCast, k1]; rfl
  rw [k2, lightOf_at hv, hpa]
  have hge : ¬ x.lights[k] < 0 := by have := q2 _ (mem_at hv); omega
  simp only [hge, decide_false, cnd_ff]
  have hz : (t.paths.zip x.lights).length = t.paths.length := by rw [List.length_zip]; omega
  refine (iter_list0 (t.paths.zip x.lights) (by omega) (fun n o => ((s, (k : Int), t.paths, (t.paths.length : Int), (n : Int)), t, zeroRep, (⟨p, s, x.lights[k], greenSince t.record (k : Int) s, o⟩ : Report))) 0 (fun r _ o => some ((⟨p, s, x.lights[k], greenSince t.record (k : Int) s, goO y r o⟩ : Report), true)) ?_ ?_ ?_).trans rfl
  · rfl
  · intro rec o
    simp [goO, hz]
  · intro rec n z o hz1 hn1 hr
    simp only [Int.natCast_succ] at hr
    obtain ⟨z1, z2⟩ := zip_at hz1
    have hn2 : n < t.paths.length := by omega
    simp [hn2, getZ_at z1, getZ_at k1, iConflict_v, iLightShown_v _ _ _ h4, lightShown, c3, lightOf_at z2, W_n1 (show n ≤ 9223372036854775806 by omega), goO]
    by_cases o0 : o = 0
    · subst o0
      by_cases l0 : z.2 = 0
      · simp [l0]
        cases conflict y z.1 <;> simp [hr]
      · have : (z.2 != 0) = true := by simp [l0]
        simp [this, l0]
        cases conflict y z.1 <;> simp [hr]
    · have : (o == 0) = false := by simp [o0]
      simp [this, o0, hr]
theorem lFnExactReportOf_v (x : Town × Int × Int) (h : OkTown x.1 ∧ Rg x.2.1 ∧ Rg x.2.2) : S_lFnExactReportOf x.1 x.2.1 x.2.2 = some true := by
  obtain ⟨a, p, s⟩ := x
  obtain ⟨r, e, d⟩ := lszTown_v a h.1 1048576 (by decide) (by decide)
  unfold S_lFnExactReportOf
  simp only [rws_note_ss, eta_Control, eta_Town]
  rcases d with d | ⟨_, _, hs⟩
  · simp [e, d]
  · simp [e, show ¬ r < 0 by omega, ltoTown_v a hs, sReportOf_v a _ _ hs, iReportOf_v a _ _ hs, leqTown_v a a hs, cnd_if]
end Go.Sh
