/- SeenNow. -/
import Derived.Test.YtabjaeobdmahlaaQ9
set_option linter.all false
namespace Go.Sh
open Go.Fx
theorem ifA_t {β : Type} (x : Option β) : ifA (true = true) x = x := rfl
def brk (a : Lamp) (path colour : Int) : Bool := a.path == path && (a.colour == colour && a.broken)
def broken (x : List Lamp) (path colour : Int) : Bool := x.any fun a => brk a path colour
theorem any_loop {α V : Type} (l : List α) (p : α → Bool) (hl : l.length ≤ 1099511627776) (st : Nat → V) {F : (V → Option Bool) → V → Option Bool} {v : V} (hv : v = st 0)
    (h0 : ∀ rec, F rec (st l.length) = some false)
    (h1 : ∀ rec k x, l[k]? = some x → k < l.length → F rec (st k) = if p x = true then some true else rec (st (k + 1))) : iter F NN v = some (l.any p) := by
  refine (iter_list0 l (by omega) (fun k (_ : Unit) => st k) () (fun s _ _ => some (s.any p)) hv ?_ ?_).trans rfl
  · intro rec _; rw [h0]; rfl
  · intro rec k x _ hx hk hr
    rw [h1 rec k x hx hk, List.any_cons]
    cases p x with
    | true => simp
    | false => simpa using hr ()
theorem sIsBroken_v (x : List Lamp) (path colour : Int) (h : Sm x) : S_sIsBroken x path colour = some (broken x path colour) := by
  unfold Sm at h
  unfold S_sIsBroken broken
  simp only [rws_lamp, len_lamp]
  refine any_loop x (fun a => brk a path colour) (by omega) (fun k => (x, path, colour, (k : Int))) rfl ?_ ?_
  · intro rec; simp
  · intro rec k a ha hk
    simp only [brk]
    simp [hk, getZ_at ha, W_n1 (show k ≤ 9223372036854775806 by omega)]
    by_cases c1 : a.path = path
    · by_cases c2 : a.colour = colour
      · cases hb : a.broken <;> simp [c1, c2]
      · simp [c1, c2, show (a.colour == colour) = false by simp [c2]]
    · simp [c1, show (a.path == path) = false by simp [c1]]
theorem iIsBroken_v (x : List Lamp) (path colour : Int) (h : Sm x) : S_iIsBroken x path colour = some (broken x path colour) := by
  unfold Sm at h
  unfold S_iIsBroken S_slices_Contains_loop_example_g03006_impl_Lamp_loop_example_g03006_impl_Lamp S_slices_Index_loop_example_g03006_impl_Lamp_loop_example_g03006_impl_Lamp broken
  simp only [rws_lamp, len_lamp, bnd_id']
  generalize hI : iter (_ : ((List Lamp × Int × Int) × Lamp → Option Int) → _ → Option Int) NN _ = J0
  have hI' : J0 = match x.findIdx? (fun a => brk a path colour) with | some i => some (i : Int) | none => some (-1) := by
    rw [← hI]
    refine find_loop x (fun a => brk a path colour) (by omega) (fun k => ((x, (x.length : Int), (k : Int)), (⟨path, colour, true⟩ : Lamp))) (fun i => some (i : Int)) (some (-1)) rfl ?_ ?_
    · intro rec; simp
    · intro rec k a ha hk
      have e : eqB [I path, I colour, Bl true] [I a.path, I a.colour, Bl a.broken] = brk a path colour := by
        show (path == a.path && (colour == a.colour && (true == a.broken))) = (a.path == path && (a.colour == colour && a.broken))
        rw [Bool.eq_iff_iff]
        simp only [Bool.and_eq_true, beq_iff_eq]
        exact ⟨fun ⟨h1, h2, h3⟩ => ⟨h1.symm, h2.symm, h3.symm⟩, fun ⟨h1, h2, h3⟩ => ⟨h1.symm, h2.symm, h3.symm⟩⟩
      simp [hk, getZ_at ha, e, W_n1 (show k ≤ 9223372036854775806 by omega), cnd_if]
  rw [hI', ← findIdx_some']
  cases x.findIdx? (fun a => brk a path colour) <;> simp
def seen1 (x : List Lamp) (z : Path × Int) : Int := if (z.2 = 0 ∨ z.2 = 1) ∧ broken x z.1.id z.2 = true then -1 else z.2
def visible (l : List Path) (x : List Lamp) (v : List Int) : List Int := if v.length = l.length then (l.zip v).map (seen1 x) else []
theorem sVisible_v (l : List Path) (x : List Lamp) (v : List Int) (h : Sm l) (hx : Sm x) : S_sVisible l x v = some (visible l x v) := by
  have hl := h
  unfold Sm at hl
  unfold S_sVisible visible
  simp only [rws_path, rws_lamp, rws_i, len_path, len_i]
  by_cases c : v.length = l.length
  · rw [if_pos c]
    have hz : (l.zip v).length = l.length := by rw [List.length_zip]; omega
    refine map_loop (l.zip v) (seen1 x) (by omega) (fun k acc => (l, x, v, acc, (k : Int))) some rfl ?_ ?_
    · intro rec acc ha; simp [hz]
    · intro rec k z acc hzk hk ha
      obtain ⟨z1, z2⟩ := zip_at hzk
      simp [show k < l.length by omega, c, getZ_at z1, getZ_at z2, sIsBroken_v x _ _ hx, W_n1 (show k ≤ 9223372036854775806 by omega), ha, show (k + 1) * 8 ≤ 140737488355328 by omega, show k ≤ 1152921504606846975 by omega, seen1]
      by_cases a0 : z.2 = 0
      · simp [a0]
        cases broken x z.1.id 0 <;> simp
      · by_cases a1 : z.2 = 1
        · simp [a1]
          cases broken x z.1.id 1 <;> simp
        · simp [a0, a1, show (z.2 == 0) = false by simp [a0], show (z.2 == 1) = false by simp [a1]]
  · rw [if_neg c]
    refine (iter_list0 l (by omega) (fun k (_ : Unit) => (l, x, v, ([] : List Int), (k : Int))) () (fun _ _ _ => some []) rfl ?_ ?_).trans rfl
    · intro rec _; simp
    · intro rec k p _ hp hk hr
      have : ((v.length : Int) == (l.length : Int)) = false := by simp; omega
      simp [hk, this]
theorem iVisible_v (l : List Path) (x : List Lamp) (v : List Int) (h : Sm l) (hx : Sm x) : S_iVisible l x v = some (visible l x v) := by
  have hl := h
  unfold Sm at hl
  unfold S_iVisible visible
  simp only [rws_path, rws_lamp, rws_i, len_path, len_i]
  by_cases c : v.length = l.length
  · rw [if_pos c, show (((v.length : Nat) : Int) != ((l.length : Nat) : Int)) = false by simp [c], cnd_ff]
    have hz : (l.zip v).length = l.length := by rw [List.length_zip]; omega
    refine map_loop (l.zip v) (seen1 x) (by omega) (fun k acc => (x, v, acc, l, (l.length : Int), (k : Int))) some rfl ?_ ?_
    · intro rec acc ha; simp [hz]
    · intro rec k z acc hzk hk ha
      obtain ⟨z1, z2⟩ := zip_at hzk
      simp [show k < l.length by omega, getZ_at z1, getZ_at z2, iIsBroken_v x _ _ hx, W_n1 (show k ≤ 9223372036854775806 by omega), ha, show (k + 1) * 8 ≤ 140737488355328 by omega, show k ≤ 1152921504606846975 by omega, seen1]
      by_cases a0 : z.2 = 0
      · simp [a0]
        cases broken x z.1.id 0 <;> simp
      · by_cases a1 : z.2 = 1
        · simp [a1]
          cases broken x z.1.id 1 <;> simp
        · simp [a0, a1, show (z.2 == 0) = false by simp [a0], show (z.2 == 1) = false by simp [a1]]
  · rw [if_neg c, show (((v.length : Nat) : Int) != ((l.length : Nat) : Int)) = true by simp; omega, cnd_tt]
def seenNow (t : Town) : List Int := if mode t.paths t.lamps t.power = 0 then visible t.paths t.lamps (lightsNow t) else t.paths.map fun _ => -1
theorem sSeenNow_v (t : Town) (h : SmTown t) : S_sSeenNow t = some (seenNow t) := by
  have h' := h
  obtain ⟨h0, h1, h2, h3, h4⟩ := h
  have e1 : S_sModeOf t = some (mode t.paths t.lamps t.power) := by unfold S_sModeOf; simp [sModeFor_v _ _ _ h0 h3]
  unfold S_sSeenNow seenNow
  simp only [rws_path, rws_want, rws_lamp, rws_i, rws_note_ss, eta_Control, eta_Town, e1, bnd_some, bnd_id', sLightsNow_v t h', sVisible_v _ _ _ h0 h3, sl33All_v t _ h0, cnd_if, beq_iff_eq]
  split <;> rfl
theorem iSeenNow_v (t : Town) (h : SmTown t) : S_iSeenNow t = some (seenNow t) := by
  have h' := h
  obtain ⟨h0, h1, h2, h3, h4⟩ := h
  have e1 : S_iModeOf t = some (mode t.paths t.lamps t.power) := by unfold S_iModeOf; simp [iModeFor_v _ _ _ h0 h3]
  unfold S_iSeenNow seenNow
  simp only [rws_path, rws_want, rws_lamp, rws_i, rws_note_ss, eta_Control, eta_Town, e1, bnd_some, bnd_id', iLightsNow_v t h', iVisible_v _ _ _ h0 h3, iall_v _ _ h0, cnd_if, bne_iff_ne]
  by_cases c : mode t.paths t.lamps t.power = 0 <;> simp [c]
theorem seenNow_sm (t : Town) (h : SmTown t) : Sm (seenNow t) := by
  have h0 := h.1
  unfold Sm seenNow visible at *
  split
  · split
    · simp; omega
    · simp
  · simpa using h0
theorem lFnExactSeenNow_v (x : Town) (h : OkTown x) : S_lFnExactSeenNow x = some true := by
  obtain ⟨r, e, d⟩ := lszTown_v x h 1048576 (by decide) (by decide)
  unfold S_lFnExactSeenNow
  simp only [rws_note_ss, eta_Control, eta_Town]
  rcases d with d | ⟨_, _, hs⟩
  · simp [e, d]
  · have hg : Sm (seenNow x) := seenNow_sm x hs
    obtain ⟨n0, b0, c0, d0, f0, e0⟩ := lmarkTown_m x hs 1 (by omega) (by omega)
    obtain ⟨n1, b1, c1, d1, f1, e1⟩ := lmarkIntS_m _ hg 1 (by omega) (by omega)
    have e2 := lheldIntS_h b1 1 n1 (by omega) (by omega) f1
    simp (disch := omega) [e, show ¬ r < 0 by omega, ltoTown_v x hs, sSeenNow_v x hs, iSeenNow_v x hs, leqIntS_v _ _ hg, leqTown_v _ _ hs, e0, e1, e2, cnd_no, ifA_t, AV.okU, okUs]
end Go.Sh
