/- Towns that are equal. -/
import Derived.Test.YtmcfebdgbcaimaaQ3
set_option linter.all false
namespace Go.Sh
open Go.Fx
theorem eqs_loop {α V β : Type} [DecidableEq α] (a b : List α) (hl : a.length = b.length) (h : a.length ≤ 1099511627776) (st : Nat → V) (K no : Option β) {F : (V → Option β) → V → Option β} {v : V} (hv : v = st 0)
    (h0 : ∀ rec, F rec (st a.length) = K) (h1 : ∀ rec k x y, a[k]? = some x → b[k]? = some y → k < a.length → F rec (st k) = if x = y then rec (st (k + 1)) else no) :
    iter F NN v = if a = b then K else no := by
  refine (iter_list0 a (by omega) (fun k (_ : Unit) => st k) () (fun l k _ => if l = b.drop k then K else no) hv ?_ ?_).trans (by simp)
  · intro rec _
    rw [h0, hl, List.drop_length]
    simp
  · intro rec k x _ hx hk hr
    have hkb : k < b.length := by omega
    have hy : b[k]? = some b[k] := List.getElem?_eq_getElem hkb
    rw [h1 rec k x _ hx hy hk, hr (), List.drop_eq_getElem_cons hkb]
    by_cases e : x = b[k]
    · rw [if_pos e]
      simp only [List.cons.injEq, e, true_and]
    · rw [if_neg e, if_neg fun h => e (List.cons.inj h).1]
theorem eqB_path (p q : Path) : eqB [I p.id, I p.kind, I p.src, I p.dst] [I q.id, I q.kind, I q.src, I q.dst] = decide (p = q) := by
  cases p; cases q; simp [eqB, eqV]; grind
theorem eqB_want (p q : Want) : eqB [I p.path, I p.wait] [I q.path, I q.wait] = decide (p = q) := by
  cases p; cases q; simp [eqB, eqV]; grind
theorem eqB_lamp (p q : Lamp) : eqB [I p.path, I p.colour, Bl p.broken] [I q.path, I q.colour, Bl q.broken] = decide (p = q) := by
  cases p; cases q; simp [eqB, eqV]; grind
theorem eqB_prio (p q : Prio) : eqB [I p.path, I p.left] [I q.path, I q.left] = decide (p = q) := by
  cases p; cases q; simp [eqB, eqV]; grind
theorem len_bne {α : Type} {a b : List α} (h : a.length = b.length) : (((a.length : Nat) : Int) != ((b.length : Nat) : Int)) = false := by simp [h]
theorem len_bne' {α : Type} {a b : List α} (h : ¬ a.length = b.length) : (((a.length : Nat) : Int) != ((b.length : Nat) : Int)) = true := by simp; omega
theorem ne_of_len {α : Type} {a b : List α} (h : ¬ a.length = b.length) : ¬ a = b := fun e => h (by rw [e])

theorem sEqualInts_v (a b : List Int) (h : Sm a) : S_sEqualInts a b = some (decide (a = b)) := by
  unfold Sm at h
  unfold S_sEqualInts
  simp only [len_i, rws_i, geti_i]
  by_cases hl : a.length = b.length
  · rw [len_bne hl, cnd_ff]
    refine (eqs_loop a b hl (by omega) (fun k => (a, b, (k : Int))) (some true) (some false) rfl ?_ ?_).trans (by split <;> simp_all)
    · intro rec; simp
    · intro rec k x y hx hy hk
      simp [hk, getZ_at hx, getZ_at hy, W_n1 (show k ≤ 9223372036854775806 by omega), cnd_if]
  · rw [len_bne' hl, cnd_tt]
    simp [ne_of_len hl]
theorem slices_Equal_int_int_v (a b : List Int) (h : Sm a) : S_slices_Equal_int_int a b = some (decide (a = b)) := by
  unfold Sm at h
  unfold S_slices_Equal_int_int
  simp only [len_i, rws_i, geti_i]
  by_cases hl : a.length = b.length
  · rw [len_bne hl, cnd_ff]
    refine (eqs_loop a b hl (by omega) (fun k => (a, b, (a.length : Int), (k : Int))) (some true) (some false) rfl ?_ ?_).trans (by split <;> simp_all)
    · intro rec; simp
    · intro rec k x y hx hy hk
      simp [hk, getZ_at hx, getZ_at hy, W_n1 (show k ≤ 9223372036854775806 by omega), cnd_if]
  · rw [len_bne' hl, cnd_tt]
    simp [ne_of_len hl]
theorem slicesEqualPath_v (a b : List Path) (h : Sm a) : S_slices_Equal_loop_example_g03006_impl_Path_loop_example_g03006_impl_Path a b = some (decide (a = b)) := by
  unfold Sm at h
  unfold S_slices_Equal_loop_example_g03006_impl_Path_loop_example_g03006_impl_Path
  simp only [len_path, rws_path, geti_path, eqB_path]
  by_cases hl : a.length = b.length
  · rw [len_bne hl, cnd_ff]
    refine (eqs_loop a b hl (by omega) (fun k => (a, b, (a.length : Int), (k : Int))) (some true) (some false) rfl ?_ ?_).trans (by split <;> simp_all)
    · intro rec; simp
    · intro rec k x y hx hy hk
      simp [hk, getZ_at hx, getZ_at hy, W_n1 (show k ≤ 9223372036854775806 by omega), cnd_if]
  · rw [len_bne' hl, cnd_tt]
    simp [ne_of_len hl]
theorem slicesEqualWant_v (a b : List Want) (h : Sm a) : S_slices_Equal_loop_example_g03006_impl_Want_loop_example_g03006_impl_Want a b = some (decide (a = b)) := by
  unfold Sm at h
  unfold S_slices_Equal_loop_example_g03006_impl_Want_loop_example_g03006_impl_Want
  simp only [len_want, rws_want, geti_want, eqB_want]
  by_cases hl : a.length = b.length
  · rw [len_bne hl, cnd_ff]
    refine (eqs_loop a b hl (by omega) (fun k => (a, b, (a.length : Int), (k : Int))) (some true) (some false) rfl ?_ ?_).trans (by split <;> simp_all)
    · intro rec; simp
    · intro rec k x y hx hy hk
      simp [hk, getZ_at hx, getZ_at hy, W_n1 (show k ≤ 9223372036854775806 by omega), cnd_if]
  · rw [len_bne' hl, cnd_tt]
    simp [ne_of_len hl]
theorem slicesEqualLamp_v (a b : List Lamp) (h : Sm a) : S_slices_Equal_loop_example_g03006_impl_Lamp_loop_example_g03006_impl_Lamp a b = some (decide (a = b)) := by
  unfold Sm at h
  unfold S_slices_Equal_loop_example_g03006_impl_Lamp_loop_example_g03006_impl_Lamp
  simp only [len_lamp, rws_lamp, geti_lamp, eqB_lamp]
  by_cases hl : a.length = b.length
  · rw [len_bne hl, cnd_ff]
    refine (eqs_loop a b hl (by omega) (fun k => (a, b, (a.length : Int), (k : Int))) (some true) (some false) rfl ?_ ?_).trans (by split <;> simp_all)
    · intro rec; simp
    · intro rec k x y hx hy hk
      simp [hk, getZ_at hx, getZ_at hy, W_n1 (show k ≤ 9223372036854775806 by omega), cnd_if]
  · rw [len_bne' hl, cnd_tt]
    simp [ne_of_len hl]
theorem iEqualTowns_1_v (x y : Note) (h : SmNote x) : S_iEqualTowns_1 x y = some (decide (x = y)) := by
  unfold S_iEqualTowns_1
  simp [slices_Equal_int_int_v x.lights y.lights h]
  cases x; cases y; simp [cnd_if]; grind
theorem slicesEqualFuncEntry_v (a b : List Note) (h : Sm a ∧ ∀ y ∈ a, SmNote y) : S_slices_EqualFunc_loop_example_g03006_impl_Entry_loop_example_g03006_impl_Entry_loop_example_g03006_impl_Entry_loop_example_g03006_impl_Entry a b = some (decide (a = b)) := by
  obtain ⟨h, hs⟩ := h
  unfold Sm at h
  unfold S_slices_EqualFunc_loop_example_g03006_impl_Entry_loop_example_g03006_impl_Entry_loop_example_g03006_impl_Entry_loop_example_g03006_impl_Entry
  simp only [len_note, rws_note_ss, geti_note_ss, eta_Note]
  by_cases hl : a.length = b.length
  · rw [len_bne hl, cnd_ff]
    refine (eqs_loop a b hl (by omega) (fun k => (b, (), a, (a.length : Int), (k : Int))) (some true) (some false) rfl ?_ ?_).trans (by split <;> simp_all)
    · intro rec; simp
    · intro rec k x y hx hy hk
      simp [hk, getZ_at hx, getZ_at hy, W_n1 (show k ≤ 9223372036854775806 by omega), iEqualTowns_1_v x y (hs x (mem_at hx)), cnd_if]
  · rw [len_bne' hl, cnd_tt]
    simp [ne_of_len hl]
theorem sEqualControls_v (a b : Control) (h : SmControl a) : S_sEqualControls a b = some (decide (a = b)) := by
  obtain ⟨h0, h1⟩ := h
  unfold S_sEqualControls
  simp [sEqualInts_v _ _ h0, sEqualInts_v _ _ h1]
  cases a; cases b; simp [cnd_if]; grind
theorem iEqualControls_v (a b : Control) (h : SmControl a) : S_iEqualControls a b = some (decide (a = b)) := by
  obtain ⟨h0, h1⟩ := h
  unfold S_iEqualControls
  simp [slices_Equal_int_int_v _ _ h0, slices_Equal_int_int_v _ _ h1]
  cases a; cases b; simp [cnd_if]; grind
theorem iEqualTowns_v (a b : Town) (h : SmTown a) : S_iEqualTowns a b = some (decide (a = b)) := by
  obtain ⟨h0, h1, h2, h3, h4⟩ := h
  unfold S_iEqualTowns
  simp [slicesEqualPath_v _ _ h0, iEqualControls_v _ _ h1, slicesEqualWant_v _ _ h2, slicesEqualLamp_v _ _ h3, slicesEqualFuncEntry_v _ _ h4, eqB_prio]
  cases a; cases b; simp [cnd_if]; grind
theorem sl33Lists_v (a b : Town) (h : SmTown a) : S_sl33Lists a b = some (decide (a.paths = b.paths) && (decide (a.wants = b.wants) && (decide (a.lamps = b.lamps) && decide (a.record = b.record)))) := by
  obtain ⟨h0, h1, h2, h3, h4, hs⟩ := h
  unfold Sm at h0 h2 h3 h4
  unfold S_sl33Lists
  simp only [len_path, len_want, len_lamp, len_note, rws_i, rws_note_ss, rws_path, rws_want, rws_lamp, geti_path, geti_want, geti_lamp, geti_note_ss, eqB_path, eqB_want, eqB_lamp, eta_Control, eta_Town]
  by_cases l0 : a.paths.length = b.paths.length
  · by_cases l2 : a.wants.length = b.wants.length
    · by_cases l3 : a.lamps.length = b.lamps.length
      · by_cases l4 : a.record.length = b.record.length
        · rw [len_bne l0, len_bne l2, len_bne l3, len_bne l4, cnd_ff, cnd_ff, cnd_ff, cnd_ff]
          refine (eqs_loop a.paths b.paths l0 (by omega) (fun k => ((k : Int), a, b)) (some (decide (a.wants = b.wants) && (decide (a.lamps = b.lamps) && decide (a.record = b.record)))) (some false) rfl ?_ ?_).trans ?_
          · intro rec
            simp only [Int.lt_irrefl, decide_false, cnd_ff]
            refine (eqs_loop a.wants b.wants l2 (by omega) (fun k => ((k : Int), a, b)) (some (decide (a.lamps = b.lamps) && decide (a.record = b.record))) (some false) rfl ?_ ?_).trans ?_
            · intro rec
              simp only [Int.lt_irrefl, decide_false, cnd_ff]
              refine (eqs_loop a.lamps b.lamps l3 (by omega) (fun k => ((k : Int), a, b)) (some (decide (a.record = b.record))) (some false) rfl ?_ ?_).trans ?_
              · intro rec
                simp only [Int.lt_irrefl, decide_false, cnd_ff]
                refine (eqs_loop a.record b.record l4 (by omega) (fun k => ((k : Int), a, b)) (some true) (some false) rfl ?_ ?_).trans ?_
                · intro rec
                  simp
                · intro rec k x y hx hy hk
                  simp [hk, getZ_at hx, getZ_at hy, W_n1 (show k ≤ 9223372036854775806 by omega), sEqualInts_v x.lights y.lights (hs x (mem_at hx))]
                  cases x; cases y; simp [cnd_if]; grind
                · by_cases e : a.record = b.record <;> simp [e]
              · intro rec k x y hx hy hk
                simp [hk, getZ_at hx, getZ_at hy, W_n1 (show k ≤ 9223372036854775806 by omega), cnd_if]
              · by_cases e : a.lamps = b.lamps <;> simp [e]
            · intro rec k x y hx hy hk
              simp [hk, getZ_at hx, getZ_at hy, W_n1 (show k ≤ 9223372036854775806 by omega), cnd_if]
            · by_cases e : a.wants = b.wants <;> simp [e]
          · intro rec k x y hx hy hk
            simp [hk, getZ_at hx, getZ_at hy, W_n1 (show k ≤ 9223372036854775806 by omega), cnd_if]
          · by_cases e : a.paths = b.paths <;> simp [e]
        · rw [len_bne l0, len_bne l2, len_bne l3, len_bne' l4, cnd_ff, cnd_ff, cnd_ff, cnd_tt]
          simp [ne_of_len l4]
      · rw [len_bne l0, len_bne l2, len_bne' l3, cnd_ff, cnd_ff, cnd_tt]
        simp [ne_of_len l3]
    · rw [len_bne l0, len_bne' l2, cnd_ff, cnd_tt]
      simp [ne_of_len l2]
  · rw [len_bne' l0, cnd_tt]
    simp [ne_of_len l0]
theorem sEqualTowns_v (a b : Town) (h : SmTown a) : S_sEqualTowns a b = some (decide (a = b)) := by
  have h' := h
  obtain ⟨h0, h1, h2, h3, h4⟩ := h
  unfold S_sEqualTowns
  simp [sEqualControls_v _ _ h1, sl33Lists_v _ _ h', eqB_prio]
  cases a; cases b; simp [cnd_if]; grind
theorem lFnExactEqualTowns_v (a b : Town) (h : OkTown a) (h' : OkTown b) : S_lFnExactEqualTowns a b = some true := by
  obtain ⟨r, e, d⟩ := lszTown_v a h 1048576 (by decide) (by decide)
  unfold S_lFnExactEqualTowns
  simp only [rws_note_ss, eta_Control, eta_Town]
  rcases d with d | ⟨d0, d1, hs⟩
  · simp [e, d]
  · obtain ⟨r', e', d'⟩ := lszTown_v b h' r d0 d1
    rcases d' with d' | ⟨d2, _, hs'⟩
    · simp [e, show ¬ r < 0 by omega, e', d']
    · simp [e, show ¬ r < 0 by omega, e', show ¬ r' < 0 by omega, ltoTown_v a hs, ltoTown_v b hs', sEqualTowns_v a b hs, iEqualTowns_v a b hs, leqTown_v a a hs, leqTown_v b b hs', cnd_if]
end Go.Sh
