/- StepSeconds. -/
import Derived.Test.YtjgfhonfmjfabaaGreatQC
set_option linter.all false
namespace Go.Sh
open Go.Fx
def secs (t : Town) : Nat → Town → Town × Bool
  | 0, u => (u, true)
  | k + 1, u => if (stepSecond u).2 = true then secs t k (stepSecond u).1 else (t, false)
def stepSeconds (t : Town) (n : Int) : Town × Bool := if inR n 1 100 = true then secs t n.toNat t else (t, false)
theorem secs_sm {t : Town} (ht : SmTown t) : ∀ {k : Nat} {u : Town}, SmTown u → SmTown (secs t k u).1
  | 0, u, hu => hu
  | k + 1, u, hu => by
    unfold secs
    split
    · exact secs_sm ht (stepSecond_sm hu)
    · exact ht
theorem stepSeconds_sm {t : Town} (h : SmTown t) (n : Int) : SmTown (stepSeconds t n).1 := by
  unfold stepSeconds
  split
  · exact secs_sm h h
  · exact h
abbrev noTown : Town := ⟨[], (⟨[], 0, [], 0⟩ : Control), [], (⟨0, 0⟩ : Prio), [], false, [], 0, 0⟩
theorem secs_loop {F : (((Int × Int) × (Town × (Town × Town))) → Option (Town × Bool)) → ((Int × Int) × (Town × (Town × Town))) → Option (Town × Bool)} {t : Town} {n : Int} (hn : n ≤ 100)
    (h0 : ∀ rec u (i : Nat), SmTown u → ¬ (i : Int) < n → F rec ((n, (i : Int)), (t, (noTown, u))) = some (u, true))
    (h1 : ∀ rec u (i : Nat), SmTown u → (i : Int) < n → F rec ((n, (i : Int)), (t, (noTown, u))) = if (stepSecond u).2 = true then rec ((n, ((i + 1 : Nat) : Int)), (t, (noTown, (stepSecond u).1))) else some (t, false))
    {i : Nat} {u : Town} (hu : SmTown u) : iter F NN ((n, (i : Int)), (t, (noTown, u))) = some (secs t (n.toNat - i) u) := by
  refine iter_ind (R := fun v => some (secs t (n.toNat - v.1.2.toNat) v.2.2.2)) (fun v => n.toNat - v.1.2.toNat) (fun v => ∃ (i : Nat) (u : Town), v = ((n, (i : Int)), (t, (noTown, u))) ∧ SmTown u) ?_ NN _ ⟨i, u, rfl, hu⟩ (NN_big (by omega))
  rintro rec _ ⟨i, u, rfl, hu⟩ hr
  by_cases c : (i : Int) < n
  · rw [h1 rec u i hu c]
    have e : n.toNat - i = n.toNat - (i + 1) + 1 := by omega
    simp only [Int.toNat_natCast]
    rw [e, secs]
    split
    · rw [hr _ ⟨i + 1, _, rfl, stepSecond_sm hu⟩ (by simp only [Int.toNat_natCast]; omega)]
      simp only [Int.toNat_natCast]
    · rfl
  · rw [h0 rec u i hu c]
    simp only [Int.toNat_natCast]
    rw [show n.toNat - i = 0 by omega]
    rfl
theorem sStepSeconds_v (t : Town) (n : Int) (h : SmTown t) : S_sStepSeconds t n = some (stepSeconds t n) := by
  unfold S_sStepSeconds stepSeconds
  simp only [rws_path, rws_i, rws_want, rws_lamp, rws_note_ss, rws_note_oo, eta_Control, eta_Town, sl33Copy_v t h, sl1In_r, bnd_some]
  cases hn : inR n 1 100 with
  | false => simp
  | true =>
    have hn' : 1 ≤ n ∧ n ≤ 100 := by simpa [inR] using hn
    simp only [Bool.not_true, cnd_ff, if_true]
    refine (secs_loop (t := t) (n := n) (i := 0) (u := t) hn'.2 ?_ ?_ h).trans (by simp)
    · intro rec u i hu hi
      simp [hi, eta_Control, eta_Town]
    · intro rec u i hu hi
      simp only [rws_path, rws_i, rws_want, rws_lamp, rws_note_ss, rws_note_oo, eta_Control, eta_Town, decide_eq_true hi, cnd_tt, sStepSecond_v u hu, bnd_some, sl33Copy_v t h, W_n1 (show i ≤ 9223372036854775806 by omega)]
      cases (stepSecond u).2 <;> simp
theorem iStepSeconds_v (t : Town) (n : Int) (h : SmTown t) : S_iStepSeconds t n = some (stepSeconds t n) := by
  unfold S_iStepSeconds stepSeconds
  simp only [rws_path, rws_i, rws_want, rws_lamp, rws_note_ss, rws_note_so, rws_note_oo, eta_Control, eta_Town, icloneTown_v t h, iInRange_r, bnd_some, iStepSecond_v t h]
  cases hn : inR n 1 100 with
  | false => simp
  | true =>
    have hn' : 1 ≤ n ∧ n ≤ 100 := by simpa [inR] using hn
    simp only [Bool.not_true, cnd_ff, if_true, show decide ((0 : Int) < n) = true from decide_eq_true (by omega), cnd_tt, show W (0 + 1) = ((1 : Nat) : Int) from W_id (by omega) (by omega)]
    have e : n.toNat = n.toNat - 1 + 1 := by omega
    rw [e, secs]
    cases h2 : (stepSecond t).2 with
    | false => simp
    | true =>
      simp only [Bool.not_true, cnd_ff, if_true]
      refine secs_loop (t := t) (n := n) (i := 1) (u := (stepSecond t).1) hn'.2 ?_ ?_ (stepSecond_sm h)
      · intro rec u i hu hi
        simp [hi, eta_Control, eta_Town]
      · intro rec u i hu hi
        simp only [rws_path, rws_i, rws_want, rws_lamp, rws_note_ss, rws_note_so, rws_note_oo, eta_Control, eta_Town, decide_eq_true hi, cnd_tt, iStepSecond_v u hu, bnd_some, icloneTown_v t h, W_n1 (show i ≤ 9223372036854775806 by omega)]
        cases (stepSecond u).2 <;> simp
theorem lFnExactStepSeconds_v (x : Town × Int) (h : OkTown x.1 ∧ Rg x.2) : S_lFnExactStepSeconds x.1 x.2 = some true := by
  obtain ⟨t, p⟩ := x
  obtain ⟨r, e, d⟩ := lszTown_v t h.1 1048576 (by decide) (by decide)
  unfold S_lFnExactStepSeconds
  simp only [rws_path, rws_i, rws_want, rws_lamp, rws_note_ss, eta_Control, eta_Town]
  rcases d with d | ⟨_, _, hs⟩
  · simp [e, d]
  · have hg := stepSeconds_sm hs p
    obtain ⟨n0, b0, c0, d0, f0, e0⟩ := lmarkTown_m t hs 1 (by omega) (by omega)
    obtain ⟨n1, b1, c1, d1, f1, e1⟩ := lmarkTown_m _ hg 1 (by omega) (by omega)
    have e2 := lheldTown_h b1 1 n1 (by omega) (by omega) f1
    simp (disch := omega) [e, show ¬ r < 0 by omega, ltoTown_v t hs, sStepSeconds_v t p hs, iStepSeconds_v t p hs, leqTown_v _ _ hg, leqTown_v _ _ hs, e0, e1, e2, cnd_no, ifA_t, AV.okU, okUs, eta_Control, eta_Town]
end Go.Sh
