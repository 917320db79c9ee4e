/- StepCall. -/
import Derived.Test.YtjgfhonfmjfabaaGreatQA
set_option linter.all false
namespace Go.Sh
open Go.Fx
theorem while_loop {α V β : Type} (l : List α) (p : α → Bool) (hl : l.length ≤ 1099511627776) (st : Nat → V) (R : Nat → Option β) {F : (V → Option β) → V → Option β} {v : V} (hv : v = st 0)
    (h0 : ∀ rec, F rec (st l.length) = R l.length)
    (h1 : ∀ rec k x, l[k]? = some x → k < l.length → F rec (st k) = if p x = true then rec (st (k + 1)) else R k) : iter F NN v = R (l.takeWhile p).length := by
  refine (iter_list0 l (by omega) (fun k (_ : Unit) => st k) () (fun s k _ => R (k + (s.takeWhile p).length)) hv ?_ ?_).trans (by simp)
  · intro rec _; rw [h0]; simp
  · intro rec k x _ hx hk hr
    rw [h1 rec k x hx hk, List.takeWhile_cons]
    cases p x with
    | true =>
      simp only [if_true]
      rw [hr ()]
      congr 1
      simp
      omega
    | false => simp
def putW (w : List Want) (p : Int) (k : Nat) : List Want := w.take k ++ [(⟨p, 0⟩ : Want)] ++ w.drop k
def addWant (l : List Path) (w : List Want) (p : Int) : List Want × Bool :=
  if areWants l (putW w p (w.takeWhile fun x => decide (x.path < p)).length) = true then (putW w p (w.takeWhile fun x => decide (x.path < p)).length, true) else (w, false)
theorem putW_len (w : List Want) (p : Int) {k : Nat} (hk : k ≤ w.length) : (putW w p k).length = w.length + 1 := by
  unfold putW
  simp only [List.length_append, List.length_take, List.length_drop, List.length_singleton]
  omega
theorem takeWhile_le {α : Type} (p : α → Bool) (l : List α) : (l.takeWhile p).length ≤ l.length := (List.takeWhile_sublist p).length_le
theorem rws_put (w : List Want) (p : Int) (k : Nat) {β : Type} (K : List Want → Option β) : rws wantR (((w.take k).map wantR.enc ++ [[I p, I 0]]) ++ (w.drop k).map wantR.enc) K = K (putW w p k) := by
  have e : ((w.take k).map wantR.enc ++ [[I p, I 0]]) ++ (w.drop k).map wantR.enc = (putW w p k).map wantR.enc := by
    have h1 := List.map_append (f := wantR.enc) (l₁ := w.take k ++ [(⟨p, 0⟩ : Want)]) (l₂ := w.drop k)
    have h2 := List.map_append (f := wantR.enc) (l₁ := w.take k) (l₂ := [(⟨p, 0⟩ : Want)])
    exact (h1.trans (congrArg (· ++ _) h2)).symm
  rw [e]
  exact rws_want _ _
theorem rws_put2 (w : List Want) (p : Int) (k : Nat) {β : Type} (K : List Want → Option β) : rws wantR (((w.take k).map wantR.enc ++ [[I p, I 0]]) ++ ((w.take w.length).drop k).map wantR.enc) K = K (putW w p k) := by
  rw [List.take_length]
  exact rws_put w p k K
theorem sAddWant_v (l : List Path) (w : List Want) (p : Int) (hl : Sm l) (hw : Sm w) : S_sAddWant l w p = some (addWant l w p) := by
  have hw' := hw
  unfold Sm at hw'
  have hk := takeWhile_le (fun x : Want => decide (x.path < p)) w
  unfold S_sAddWant
  simp only [rws_path, rws_want, len_want, geti_want]
  refine (while_loop w (fun x => decide (x.path < p)) (by omega) (fun k => (l, w, p, (k : Int))) (fun k => some (if areWants l (putW w p k) = true then (putW w p k, true) else (w, false))) rfl ?_ ?_).trans rfl
  · intro rec
    rw [show decide (((w.length : Nat) : Int) < ((w.length : Nat) : Int)) = false from decide_eq_false (by omega), cnd_ff]
    simp only [Int.toNat_natCast, show Int.toNat 0 = 0 from rfl, List.drop_zero, take_want, drop_want, clrs_want, len_want, List.length_nil, List.length_append, List.length_take, List.length_drop, List.length_singleton, rws_put2, sAreWants_vL l (putW w p w.length) hl (by rw [putW_len w p (Nat.le_refl _)]; omega), bnd_some]
    rw [ifA_pos (by omega), ifA_pos (by omega), ifA_pos (by omega), ifA_pos (by omega), ifA_pos (by omega)]
    cases areWants l (putW w p w.length) with
    | true => simp
    | false =>
      simp only [Bool.not_false, cnd_tt, rws_want]
      rw [ifA_pos (by omega)]
      simp
  · intro rec k x hx hkl
    rw [show decide (((k : Nat) : Int) < ((w.length : Nat) : Int)) = true from decide_eq_true (by omega), cnd_tt, getZ_at hx]
    by_cases c : x.path < p
    · simp [c, W_n1 (show k ≤ 9223372036854775806 by omega)]
    rw [decide_eq_false c, cnd_ff, if_neg (by simp)]
    simp only [Int.toNat_natCast, show Int.toNat 0 = 0 from rfl, List.drop_zero, take_want, drop_want, clrs_want, len_want, List.length_nil, List.length_append, List.length_take, List.length_drop, List.length_singleton, rws_put2, sAreWants_vL l (putW w p k) hl (by rw [putW_len w p (by omega)]; omega), bnd_some]
    rw [ifA_pos (by omega), ifA_pos (by omega), ifA_pos (by omega), ifA_pos (by omega), ifA_pos (by omega)]
    cases areWants l (putW w p k) with
    | true => simp
    | false =>
      simp only [Bool.not_false, cnd_tt, rws_want]
      rw [ifA_pos (by omega)]
      simp
theorem has_want (w : List Want) (p : Int) (h : Sm w) : S_slices_ContainsFunc_loop_example_g03006_impl_Want_loop_example_g03006_impl_Want w p = some (w.any fun x => x.path == p) := by
  unfold Sm at h
  unfold S_slices_ContainsFunc_loop_example_g03006_impl_Want_loop_example_g03006_impl_Want S_slices_IndexFunc_loop_example_g03006_impl_Want_loop_example_g03006_impl_Want
  simp only [rws_want, len_want]
  generalize hI : iter (_ : _ → _ → Option Int) NN _ = J0
  have hI' : J0 = match w.findIdx? (fun x => x.path == p) with | some i => some (i : Int) | none => some (-1) := by
    rw [← hI]
    refine find_loop w (fun x => x.path == p) (by omega) (fun k => (w, p, (w.length : Int), (k : Int))) (fun i => some (i : Int)) (some (-1)) rfl ?_ ?_
    · intro rec; simp
    · intro rec k a ha hk
      unfold S_iAddWant_1
      simp [hk, getZ_at ha, W_n1 (show k ≤ 9223372036854775806 by omega), cnd_if]
  rw [hI', ← findIdx_some']
  cases w.findIdx? (fun x => x.path == p) <;> simp
theorem goW_sorted {l : List Path} {p : Int} : ∀ {w : List Want} {pv : Option Int}, goW l pv w = true → ∀ x ∈ w, (∀ q, pv = some q → q < x.path)
  | [], _, _, x, hx => by cases hx
  | y :: w, pv, h, x, hx => fun q hq => by
    simp only [goW, Bool.and_eq_true] at h
    have h1 : q < y.path := by
      have := h.1.2
      rw [hq] at this
      simpa [later] using this
    rcases List.mem_cons.1 hx with rfl | hx
    · exact h1
    · have := goW_sorted (p := p) h.2 x hx _ rfl
      omega
theorem goW_app {l : List Path} {a : List Want} {y : Want} {b : List Want} : ∀ {pv : Option Int}, goW l pv (a ++ y :: b) = true → ∀ x ∈ b, y.path < x.path := by
  induction a with
  | nil =>
    intro pv h x hx
    simp only [List.nil_append, goW, Bool.and_eq_true] at h
    exact goW_sorted (p := 0) h.2 x hx _ rfl
  | cons z a ih =>
    intro pv h x hx
    simp only [List.cons_append, goW, Bool.and_eq_true] at h
    exact ih h.2 x hx
theorem tw_mem {α : Type} {p : α → Bool} : ∀ {l : List α} {x : α}, x ∈ l.takeWhile p → p x = true
  | [], _, h => by cases h
  | y :: l, x, h => by
    rw [List.takeWhile_cons] at h
    split at h
    · rename_i hy
      rcases List.mem_cons.1 h with rfl | h
      · exact hy
      · exact tw_mem h
    · cases h
theorem addWant_dup {l : List Path} {w : List Want} {p : Int} (h : (w.any fun x => x.path == p) = true) : addWant l w p = (w, false) := by
  unfold addWant
  rw [if_neg]
  intro ha
  unfold areWants at ha
  rw [Bool.and_eq_true] at ha
  obtain ⟨x, hx, hp⟩ := List.any_eq_true.1 h
  have hp : x.path = p := by simpa using hp
  have hsplit : w = w.takeWhile (fun x => decide (x.path < p)) ++ w.dropWhile (fun x => decide (x.path < p)) := (List.takeWhile_append_dropWhile).symm
  have hd : x ∈ w.dropWhile (fun x => decide (x.path < p)) := by
    rw [hsplit] at hx
    rcases List.mem_append.1 hx with hx | hx
    · have := tw_mem hx
      simp at this
      omega
    · exact hx
  have hdr : w.drop (w.takeWhile (fun x => decide (x.path < p))).length = w.dropWhile (fun x => decide (x.path < p)) := by
    have := List.drop_left (l₁ := w.takeWhile (fun x => decide (x.path < p))) (l₂ := w.dropWhile (fun x => decide (x.path < p)))
    rw [List.takeWhile_append_dropWhile] at this
    exact this
  have := ha.2
  unfold putW at this
  rw [hdr, List.append_assoc] at this
  have := goW_app this x hd
  simp only at this
  omega
theorem iAddWant_v (l : List Path) (w : List Want) (p : Int) (hl : Sm l) (hw : Sm w) : S_iAddWant l w p = some (addWant l w p) := by
  have hw' := hw
  unfold Sm at hw'
  have hk := takeWhile_le (fun x : Want => decide (x.path < p)) w
  unfold S_iAddWant
  simp only [rws_path, rws_want, len_want, geti_want, clone_want _ hw, bnd_some, toUss_want, has_want _ p hw]
  rw [ifA_pos (by simp [AV.okU])]
  cases hd : w.any fun x => x.path == p with
  | true => rw [cnd_tt, addWant_dup hd]
  | false =>
  rw [cnd_ff]
  have ins : ∀ k : Nat, k ≤ w.length → S_slices_Insert_loop_example_g03006_impl_Want_loop_example_g03006_impl_Want w (k : Int) [(⟨p, 0⟩ : Want)] = some (putW w p k) := by
    intro k hk
    unfold S_slices_Insert_loop_example_g03006_impl_Want_loop_example_g03006_impl_Want insS putW
    rw [ifA_pos (by simp; omega), Int.toNat_natCast]
  refine (while_loop w (fun x => decide (x.path < p)) (by omega) (fun k => ((l, w, w, (k : Int)), p)) (fun k => some (if areWants l (putW w p k) = true then (putW w p k, true) else (w, false))) rfl ?_ ?_).trans rfl
  · intro rec
    rw [show decide (((w.length : Nat) : Int) < ((w.length : Nat) : Int)) = false from decide_eq_false (by omega), cnd_ff]
    simp only [ins _ (Nat.le_refl _), bnd_some, rws_want, iAreWants_vL l (putW w p w.length) hl (by rw [putW_len w p (Nat.le_refl _)]; omega)]
    cases areWants l (putW w p w.length) <;> simp [clone_want _ hw]
  · intro rec k x hx hkl
    rw [show decide (((k : Nat) : Int) < ((w.length : Nat) : Int)) = true from decide_eq_true (by omega), cnd_tt, getZ_at hx]
    by_cases c : x.path < p
    · simp [c, W_n1 (show k ≤ 9223372036854775806 by omega)]
    rw [decide_eq_false c, cnd_ff, if_neg (by simp)]
    simp only [ins k (by omega), bnd_some, rws_want, iAreWants_vL l (putW w p k) hl (by rw [putW_len w p (by omega)]; omega)]
    cases areWants l (putW w p k) <;> simp [clone_want _ hw]
theorem goP_paths : ∀ {l : List Path} {pv : Option Int}, goP pv l = true → ∀ x ∈ l, isPath x = true
  | [], _, _, x, hx => by cases hx
  | y :: l, none, h, x, hx => by
    simp only [goP, Bool.and_eq_true] at h
    rcases List.mem_cons.1 hx with rfl | hx
    · exact h.1
    · exact goP_paths h.2 x hx
  | y :: l, some i, h, x, hx => by
    simp only [goP, Bool.and_eq_true] at h
    rcases List.mem_cons.1 hx with rfl | hx
    · exact h.1.1
    · exact goP_paths h.2 x hx
theorem are_ids {l : List Path} (h : arePaths l = true) {p : Int} (hp : ¬ findPath l p < 0) : 1 ≤ p ∧ p ≤ 20 := by
  obtain ⟨i, x, h1, h2, h3⟩ := findPath_lt hp
  unfold arePaths at h
  rw [Bool.and_eq_true] at h
  have := goP_paths h.2 x (mem_at h1)
  unfold isPath inR at this
  simp only [Bool.and_eq_true, decide_eq_true_eq] at this
  rw [← h3]
  exact this.1.1.1.1
theorem goW_len {l : List Path} (h : arePaths l = true) : ∀ {w : List Want} {q : Int}, 0 ≤ q → goW l (some q) w = true → q + w.length ≤ 20 ∨ w = []
  | [], _, _, _ => .inr rfl
  | y :: w, q, hq, hg => by
    simp only [goW, Bool.and_eq_true] at hg
    have h1 : q < y.path := by simpa [later] using hg.1.2
    have h2 : ¬ findPath l y.path < 0 := by
      have := hg.1.1
      unfold wantOk at this
      simp only [Bool.and_eq_true, Bool.not_eq_true', decide_eq_false_iff_not] at this
      exact this.1
    have h3 := are_ids h h2
    refine .inl ?_
    rw [List.length_cons]
    rcases goW_len h (by omega) hg.2 with h4 | h4
    · omega
    · rw [h4]
      simp
      omega
theorem wants_len {l : List Path} {w : List Want} (h : areWants l w = true) : w.length ≤ 20 := by
  unfold areWants at h
  rw [Bool.and_eq_true] at h
  cases w with
  | nil => simp
  | cons y w =>
    have hg : goW l (some 0) (y :: w) = true := by
      have h2 := h.2
      simp only [goW, Bool.and_eq_true] at h2 ⊢
      refine ⟨⟨h2.1.1, ?_⟩, h2.2⟩
      have : ¬ findPath l y.path < 0 := by
        have := h2.1.1
        unfold wantOk at this
        simp only [Bool.and_eq_true, Bool.not_eq_true', decide_eq_false_iff_not] at this
        exact this.1
      have := are_ids h.1 this
      simp [later]
      omega
    rcases goW_len h.1 (by omega) hg with h4 | h4
    · omega
    · cases h4
theorem addWant_sm {l : List Path} {w : List Want} {p : Int} (h : Sm w) : Sm (addWant l w p).1 := by
  unfold addWant
  split
  · rename_i hc
    have := wants_len hc
    unfold Sm
    simp only
    omega
  · exact h
def stepCall (t : Town) (p : Int) : Town × Bool := stepped t { t with wants := (addWant t.paths t.wants p).1 } (addWant t.paths t.wants p).2
theorem sStepCall_v (t : Town) (p : Int) (h : SmTown t) : S_sStepCall t p = some (stepCall t p) := by
  have h' : SmTown { t with wants := (addWant t.paths t.wants p).1 } := ⟨h.1, h.2.1, addWant_sm h.2.2.1, h.2.2.2⟩
  unfold S_sStepCall stepCall
  simp only [rws_path, rws_i, rws_want, rws_lamp, rws_note_ss, eta_Control, eta_Town, sl33Copy_v t h, sAddWant_v _ _ p h.1 h.2.2.1, bnd_some, sl34Done_v t _ _ h h']
theorem iStepCall_v (t : Town) (p : Int) (h : SmTown t) : S_iStepCall t p = some (stepCall t p) := by
  have h' : SmTown { t with wants := (addWant t.paths t.wants p).1 } := ⟨h.1, h.2.1, addWant_sm h.2.2.1, h.2.2.2⟩
  unfold S_iStepCall stepCall
  simp only [rws_path, rws_i, rws_want, rws_lamp, rws_note_ss, rws_note_oo, eta_Control, eta_Town, icloneTown_v t h, iAddWant_v _ _ p h.1 h.2.2.1, bnd_some, istepped_v t _ _ h h']
theorem stepCall_sm {t : Town} (h : SmTown t) (p : Int) : SmTown (stepCall t p).1 := stepped_sm h ⟨h.1, h.2.1, addWant_sm h.2.2.1, h.2.2.2⟩
theorem lFnExactStepCall_v (x : Town × Int) (h : OkTown x.1 ∧ Rg x.2) : S_lFnExactStepCall x.1 x.2 = some true := by
  obtain ⟨t, p⟩ := x
  obtain ⟨r, e, d⟩ := lszTown_v t h.1 1048576 (by decide) (by decide)
  unfold S_lFnExactStepCall
  simp only [rws_path, rws_i, rws_want, rws_lamp, rws_note_ss, eta_Control, eta_Town]
  rcases d with d | ⟨_, _, hs⟩
  · simp [e, d]
  · have hg := stepCall_sm hs p
    obtain ⟨n0, b0, c0, d0, f0, e0⟩ := lmarkTown_m t hs 1 (by omega) (by omega)
    obtain ⟨n1, b1, c1, d1, f1, e1⟩ := lmarkTown_m _ hg 1 (by omega) (by omega)
    have e2 := lheldTown_h b1 1 n1 (by omega) (by omega) f1
    simp (disch := omega) [e, show ¬ r < 0 by omega, ltoTown_v t hs, sStepCall_v t p hs, iStepCall_v t p hs, leqTown_v _ _ hg, leqTown_v _ _ hs, e0, e1, e2, cnd_no, ifA_t, AV.okU, okUs, eta_Control, eta_Town]
end Go.Sh
