/- Top: histories, computed. -/
import Derived.Test.YtkbhcieejpbjpaaGreatU4
set_option linter.all false
namespace Go.Sh
open Go.Fx
theorem iter_true {A V : Type} {F : (V → Option Bool) → V → Option Bool} (st : Nat → A → V) (N : Nat) (J : Nat → A → Prop)
    (h0 : ∀ rec acc, J N acc → F rec (st N acc) = some true)
    (h1 : ∀ rec k acc, k < N → J k acc → (∀ acc', J (k + 1) acc' → rec (st (k + 1) acc') = some true) → F rec (st k acc) = some true) : ∀ (n k : Nat) (acc : A), N - k < n → k ≤ N → J k acc → iter F n (st k acc) = some true
  | 0, k, acc, h, _, _ => by omega
  | n + 1, k, acc, h, hk, hJ => by
    rw [iter_succ]
    by_cases c : k = N
    · subst c; exact h0 _ acc hJ
    · exact h1 _ k acc (by omega) hJ fun acc' hJ' => iter_true st N J h0 h1 n (k + 1) acc' (by omega) (by omega) hJ'
theorem run_true {A V : Type} {F : (V → Option Bool) → V → Option Bool} {v : V} (st : Nat → A → V) (N : Nat) (J : Nat → A → Prop) (acc : A) (hv : v = st 0 acc) (hN : N ≤ 1099511627776) (hJ : J 0 acc)
    (h0 : ∀ rec acc, J N acc → F rec (st N acc) = some true)
    (h1 : ∀ rec k acc, k < N → J k acc → (∀ acc', J (k + 1) acc' → rec (st (k + 1) acc') = some true) → F rec (st k acc) = some true) : iter F NN v = some true := by
  rw [hv]
  exact iter_true st N J h0 h1 NN 0 acc (NN_big (by omega)) (Nat.zero_le _) hJ
theorem ltT {k n : Nat} (h : k < n) : decide ((k : Int) < (n : Int)) = true := by simpa using h
theorem ltF (n : Nat) : decide ((n : Int) < (n : Int)) = false := by simp
theorem iPartAt_g (l : List Path) (p : List Part) (h : Sm l) (hp : SmL p) (hpl : isPlan l p = true) (t : Nat) (ht : t ≤ 1000000) : S_iPartAt l p (t : Int) = some (((goA (lens l p) (t % cyc l p) 0).1 : Int), ((goA (lens l p) (t % cyc l p) 0).2 : Int)) := by
  have hs := hp.1
  unfold Sm at hs
  obtain ⟨c1, c2⟩ := cyc_r hpl
  have hc : cyc l p = (lens l p).sum := by unfold cyc; rw [if_pos hpl]
  have e : Int.tmod (t : Int) (cyc l p : Int) = ((t % cyc l p : Nat) : Int) := tmod_n
  have hlt : t % cyc l p < cyc l p := Nat.mod_lt _ (by omega)
  unfold S_iPartAt
  simp [iCycle_v l p h hp, iInRange_v, show ¬ (cyc l p : Int) = 0 by omega, show ((cyc l p : Int) == 0) = false by simp; omega, show (t : Int) ≤ 1000000 by omega, e, show ¬ cyc l p = 0 by omega, show (cyc l p == 0) = false by simp; omega]
  refine partAt_run (lens l p) (fun s i => (l, p, s, i)) (by omega) (by rw [lens_len]; omega) (t % cyc l p) (by omega) (by simp) fun rec i s n hn hs' => ?_
  have hi : i < p.length := by
    have := (List.getElem?_eq_some_iff.1 hn).1
    rwa [lens_len] at this
  rw [lens_at hi] at hn
  cases hn
  have e2 := (lg_at hpl (List.getElem?_eq_getElem hi)).2.2
  simp [ilongOf_v l p h hp hpl i hi, W_n1 (show i ≤ 9223372036854775806 by omega), W_id (show -9223372036854775808 ≤ (s : Int) - (lg l p i : Int) by omega) (by omega), cnd_if]
  by_cases c : lg l p i ≤ s
  · rw [if_pos c, if_neg (by omega), Int.natCast_sub c]
  · rw [if_neg c, if_pos (by omega)]
theorem iLightAt_g (l : List Path) (p : List Part) (h : Sm l) (hp : SmL p) (hpl : isPlan l p = true) (id : Int) (hid : ¬ findPath l id < 0) (t : Nat) (ht : t ≤ 1000000) : S_iLightAt l p (t : Int) id = some (li l p id (goA (lens l p) (t % cyc l p) 0).1 (goA (lens l p) (t % cyc l p) 0).2) := by
  have hs := hp.1
  unfold Sm at hs
  obtain ⟨c1, c2⟩ := cyc_r hpl
  have hi := goA_at l p hpl (t % cyc l p) (Nat.mod_lt _ (by omega))
  obtain ⟨_, x, _, _, hxid⟩ := findPath_lt hid
  have hpid : (pathAt l id).id = id := by
    obtain ⟨i, x, h1, h2, h3⟩ := findPath_lt hid
    unfold pathAt
    rw [h2, Int.toNat_natCast, h1]; exact h3
  have hpa := iPartAt_g l p h hp hpl t ht
  unfold S_iLightAt S_ishown
  generalize hgi : (goA (lens l p) (t % cyc l p) 0).1 = i at hi hpa
  generalize hgs : (goA (lens l p) (t % cyc l p) 0).2 = s at hpa
  have hx : p[i]? = some p[i] := List.getElem?_eq_getElem hi
  obtain ⟨h1, _, h3, _⟩ := isPlan_spec hpl
  have hg := h3 _ (List.mem_of_getElem? hx)
  have hc := clearOf_r (pathAt l id)
  unfold li
  rw [hx]
  simp [iFindPath_v l _ h, hid, getZ_find hid, hpa, getZ_at hx, hpid, slices_Contains_int_int_v _ _ (hp.2 _ (List.mem_of_getElem? hx)), inextStage_v p hp h1 i hi, slices_Contains_int_int_v _ _ (nextOf_sm hp h1 i), iClearOf_v, W_id (show -9223372036854775808 ≤ p[i].green + clearOf (pathAt l id) by omega) (by omega), show ¬ (i : Int) < 0 by omega]
  cases has p[i].stage id with
  | false => simp
  | true =>
    simp [cnd_if]
    by_cases c1 : (s : Int) < p[i].green
    · simp [c1]
    · simp [c1]
      cases has (nextOf p i).stage id with
      | true => simp
      | false =>
        simp
        by_cases c2 : (s : Int) < p[i].green + clearOf (pathAt l id) <;> simp [c2]
theorem iLightsAt_v (l : List Path) (p : List Part) (h : Sm l) (hp : SmL p) (hpl : isPlan l p = true) (t : Nat) (ht : t ≤ 1000000) : S_iLightsAt l p (t : Int) = some (l.map (planLight l p t)) := by
  have hl := h
  unfold Sm at hl
  unfold S_iLightsAt
  simp only [rws_path, rws_part_ss, len_path]
  refine map_loop l (planLight l p t) (by omega) (fun k acc => (l, p, (t : Int), acc, l, (l.length : Int), (k : Int))) some rfl ?_ ?_
  · intro rec acc ha
    simp
  · intro rec k x acc hx hk ha
    have e : planLight l p t x = li l p x.id (goA (lens l p) (t % cyc l p) 0).1 (goA (lens l p) (t % cyc l p) 0).2 := rfl
    simp [hk, getZ_at hx, iLightAt_g l p h hp hpl _ (find_own' (List.mem_of_getElem? hx)) t ht, e, W_n1 (show k ≤ 9223372036854775806 by omega), ha, show (k + 1) * 8 ≤ 140737488355328 by omega, show k ≤ 1152921504606846975 by omega]
theorem cover_all {l : List Path} : ∀ (r : List Path) (c : List (List Int)), (∀ s ∈ c, Sm s) → (∀ s ∈ r.foldl (coverStep l) c, Sm s) ∧ (r.foldl (coverStep l) c).length ≤ c.length + r.length
  | [], c, h => ⟨h, by simp⟩
  | p :: r, c, h => by
    rw [List.foldl_cons]
    have h2 : (∀ s ∈ coverStep l c p, Sm s) ∧ (coverStep l c p).length ≤ c.length + 1 := by
      unfold coverStep
      split
      · exact ⟨h, by omega⟩
      · refine ⟨fun s hs => ?_, by simp⟩
        rcases List.mem_append.1 hs with hs | hs
        · exact h s hs
        · rw [List.mem_singleton.1 hs]; exact addToStage_sm (sm_one _)
    obtain ⟨a1, a2⟩ := cover_all r _ h2.1
    exact ⟨a1, by simp; omega⟩
theorem cover_sms (l : List Path) : (∀ s ∈ cover l, Sm s) ∧ (cover l).length ≤ 12 := by
  unfold cover
  split
  · rename_i h
    obtain ⟨a1, a2⟩ := cover_all (l := l) l [] (fun s hs => (by cases hs))
    have := are_len h
    exact ⟨a1, by simp at a2; omega⟩
  · exact ⟨fun s hs => (by cases hs), by simp⟩
def planParts (l : List Path) : List Part := (cover l).map fun s => ⟨s, leastGreen l s⟩
def planFor (l : List Path) : List Part := if isPlan l (planParts l) = true then planParts l else []
theorem planParts_sm (l : List Path) : SmL (planParts l) := by
  obtain ⟨h1, h2⟩ := cover_sms l
  refine ⟨by unfold planParts Sm; rw [List.length_map]; omega, fun y hy => ?_⟩
  obtain ⟨s, hs, rfl⟩ := List.mem_map.1 hy
  exact h1 s hs
theorem planFor_sm (l : List Path) : SmL (planFor l) := by
  unfold planFor
  split
  · exact planParts_sm l
  · exact ⟨by unfold Sm; simp, fun y hy => by cases hy⟩
theorem appe_part (l : List Part) (s : List Int) (g : Int) {β : Type} (K : List Part → Option β) : rws (partR Own.shr) (l.map (partR Own.shr).enc ++ [[(AV.slc Own.shr 1 (s.map iR.enc)), I g]]) K = K (l ++ [(⟨s, g⟩ : Part)]) :=
  (rws_app (partR Own.shr) _ _ K).trans ((rws_part_ss l _).trans (rws_part_ss [(⟨s, g⟩ : Part)] fun l' => K (l ++ l')))
theorem take_map_succ {α γ : Type} (f : α → γ) {l : List α} {k : Nat} {x : α} (h : l[k]? = some x) : (l.take k).map f ++ [f x] = (l.take (k + 1)).map f := by
  rw [List.take_add_one, h]
  simp
theorem iPlanFor_v (l : List Path) (h : Sm l) : S_iPlanFor l = some (planFor l) := by
  obtain ⟨hs, hn⟩ := cover_sms l
  unfold S_iPlanFor
  simp only [rws_path, iCoverOf_v l h, bnd_some, rws_il_oo, len_il]
  refine (iter_listJ (cover l) (by omega) (fun k acc => (l, acc, cover l, ((cover l).length : Int), (k : Int))) [] (fun k acc => acc = ((cover l).take k).map fun s => (⟨s, leastGreen l s⟩ : Part)) rfl (fun _ _ _ => some (planFor l)) rfl ?_ ?_).trans rfl
  · intro rec acc ha
    rw [List.take_length] at ha
    have ha : acc = planParts l := ha
    subst ha
    simp only [ltF, cnd_ff, rws_path, rws_part_ss, iIsPlan_v l _ h (planParts_sm l), bnd_some]
    unfold planFor
    cases isPlan l (planParts l) <;> rfl
  · intro rec k s acc ha hx hk hr
    have hlen : acc.length = k := by rw [ha, List.length_map, List.length_take]; omega
    have hr' := hr (acc ++ [⟨s, leastGreen l s⟩]) (by rw [ha]; exact take_map_succ (fun s => (⟨s, leastGreen l s⟩ : Part)) hx)
    simp only [Int.natCast_succ] at hr'
    simp [hk, getZ_at hx, iLeastGreen_v l s h (hs s (List.mem_of_getElem? hx)), appe_part, W_n1 (show k ≤ 9223372036854775806 by omega), hlen, show (k + 1) * 32 ≤ 140737488355328 by omega, show k ≤ 1152921504606846975 by omega, hr']
theorem range_el {n k x : Nat} (h : (List.range n)[k]? = some x) : x = k ∧ k < n := by
  have hk : k < n := by have := (List.getElem?_eq_some_iff.1 h).1; simpa using this
  rw [List.getElem?_range hk] at h
  exact ⟨(Option.some.inj h).symm, hk⟩
def planHist (l : List Path) (p : List Part) (n : Nat) : List (List Int) := if isPlan l p = true then planH l p n else []
theorem iPlanHistory_v (l : List Path) (p : List Part) (h : Sm l) (hp : SmL p) : S_iPlanHistory l p 0 80 = some (planHist l p 80) := by
  unfold S_iPlanHistory planHist
  simp only [rws_path, rws_part_ss, iIsPlan_v l p h hp, bnd_some, iInRange_v]
  cases hpl : isPlan l p with
  | false => rfl
  | true =>
    simp only [Bool.not_true, cnd_ff, show (!(decide ((0 : Int) ≤ 0) && decide ((0 : Int) ≤ 100000))) = false from rfl, show (!(decide ((0 : Int) ≤ 80) && decide ((80 : Int) ≤ 600))) = false from rfl, if_true]
    refine (iter_listJ (List.range 80) (by simp) (fun k acc => (l, p, (0 : Int), acc, (80 : Int), (k : Int))) [] (fun k acc => acc = planH l p k) rfl (fun _ _ _ => some (planH l p 80)) rfl ?_ ?_).trans rfl
    · intro rec acc ha
      subst ha
      have : ((List.range 80).length : Int) = 80 := by simp
      simp only [List.length_range] at *
      simp [rws_il_oo]
    · intro rec k x acc ha hx hk hr
      obtain ⟨_, hk⟩ := range_el hx
      have hlen : acc.length = k := by rw [ha]; unfold planH; simp
      have hr' := hr (acc ++ [l.map (planLight l p k)]) (by rw [ha]; unfold planH; rw [List.range_succ]; simp)
      simp only [Int.natCast_succ] at hr'
      have e : W (0 + (k : Int)) = (k : Int) := by rw [Int.zero_add]; exact W_id (by omega) (by omega)
      simp only [show decide ((k : Int) < 80) = true from decide_eq_true (by omega), cnd_tt, rws_path, rws_part_ss, e, iLightsAt_v l p h hp hpl k (by omega), bnd_some, len_il, hlen]
      rw [ifA_pos (by simp; omega)]
      simp only [appe_ilo (o := .own) (p := .own) (q := .own) rfl rfl, W_n1 (show k ≤ 9223372036854775806 by omega)]
      exact hr'
theorem iter_end {V β : Type} {F : (V → Option β) → V → Option β} {v : V} {r : Option β} (h : ∀ rec, F rec v = r) : iter F NN v = r := by
  obtain ⟨n, hn⟩ := NN_64
  rw [hn, show n + 64 = (n + 63) + 1 from rfl, iter_succ]
  exact h _
theorem iStepAsk_v (l : List Path) (x : Control) (w : List Want) (h : Sm l) (hx : SmControl x) (hw : Sm w) : S_iStepAsk l x w = some (askStep l (x, w)) := by
  unfold S_iStepAsk askStep
  simp only [rC_v, rws_path, rws_want, eta_Control, iIsControl_v l x h hx, iAreWants_v l w h hw, icloneControl_v x hx, clone_want w hw, iasked_v l x w h hx hw, bnd_some]
  cases hc : isControl l x with
  | false => rfl
  | true =>
  cases ha : areWants l w with
  | false => rfl
  | true =>
    simp only [Bool.not_true, cnd_ff, iwaited_v l _ w h (asked_sm hx) hw (asked_control hc) ha, bnd_some, Bool.and_self, if_true]
theorem askN_sm {l : List Path} {s : Control × List Want} (h : SmControl s.1 ∧ Sm s.2) : ∀ n, SmControl (askN l n s).1 ∧ Sm (askN l n s).2
  | 0 => h
  | n + 1 => by
    have ih := askN_sm (l := l) h n
    show SmControl (askStep l (askN l n s)).1 ∧ Sm (askStep l (askN l n s)).2
    unfold askStep
    split
    · exact ⟨asked_sm ih.1, waited_sm ih.2⟩
    · exact ih
theorem iAskHistory_v (l : List Path) (x : Control) (w : List Want) (h : Sm l) (hx : SmControl x) (hw : Sm w) (hc : isControl l x = true) (ha : areWants l w = true) : S_iAskHistory l x w [] 80 = some (askH l (x, w) 80) := by
  unfold S_iAskHistory
  simp only [rC_v, rws_path, rws_want, rws_ring, eta_Control, iIsControl_v l x h hx, iAreWants_v l w h hw, bnd_some, iInRange_v, hc, ha, Bool.not_true, cnd_ff, show (!(decide ((0 : Int) ≤ 80) && decide ((80 : Int) ≤ 600))) = false from rfl]
  refine (iter_listJ (List.range 80) (by simp) (fun k (acc : List (List Int) × (Control × List Want)) => ((l, acc.2.2, ([] : List Ring), acc.1, (80 : Int), (k : Int)), acc.2.1)) ([], (x, w)) (fun k acc => acc.2 = askN l k (x, w) ∧ acc.1 = askH l (x, w) k) ⟨rfl, rfl⟩ (fun _ _ _ => some (askH l (x, w) 80)) rfl ?_ ?_).trans rfl
  · rintro rec ⟨acc, s⟩ ⟨h1, h2⟩
    simp only at h1 h2
    subst h2
    simp only [List.length_range]
    simp [rws_il_oo]
  · rintro rec k z ⟨acc, y, v⟩ ⟨h1, h2⟩ hz hk hr
    obtain ⟨_, hk⟩ := range_el hz
    simp only at h1 h2
    have hlen : acc.length = k := by rw [h2]; unfold askH; simp
    have hsm := askN_sm (l := l) (s := (x, w)) ⟨hx, hw⟩ k
    rw [← h1] at hsm
    obtain ⟨hy, hv⟩ := hsm
    have hr' := hr (acc ++ [lightsOf l y], askStep l (y, v)) ⟨by show askStep l (y, v) = askStep l (askN l k (x, w)); rw [← h1], by
      show acc ++ [lightsOf l y] = _
      rw [h2]; unfold askH; rw [List.range_succ, List.map_append]; simp [← h1]⟩
    simp only [Int.natCast_succ] at hr'
    simp only [show decide ((k : Int) < 80) = true from decide_eq_true (by omega), cnd_tt, rws_path, eta_Control, iLightsOf_v l y h hy, bnd_some, len_il, hlen]
    rw [ifA_pos (by simp; omega)]
    simp only [appe_ilo (o := .own) (p := .own) (q := .own) rfl rfl, rws_want, rws_ring, len_ring]
    refine iter_end fun rec' => ?_
    simp only [List.length_nil, show decide (((0 : Nat) : Int) < ((0 : Nat) : Int)) = false from rfl, show decide ((0 : Int) < ((0 : Nat) : Int)) = false from rfl, cnd_ff, rws_path, rws_want, rws_ring, rws_il_oo, eta_Control, iStepAsk_v l y v h hy hv, bnd_some, W_n1 (show k ≤ 9223372036854775806 by omega)]
    exact hr'
def LastOk (h : List (List Int)) (s n : Nat) (last : List Int) : Prop :=
  last.length = n ∧ ∀ (j : Nat) (x : Int), last[j]? = some x → x = -1 ∨ ∃ (s' : Nat) (v : List Int), s' < s ∧ x = (s' : Int) ∧ h[s']? = some v ∧ v[j]? = some 1
theorem iIsSafeHistory_v (l : List Path) (h : List (List Int)) (hs : SafeH l h) (hn : h.length ≤ 1000) : S_iIsSafeHistory l h = some true := by
  have hl := are_len hs.a
  have hsm : Sm l := by unfold Sm; omega
  have hlen : ∀ v ∈ h, v.length = l.length := fun v hv => (safe_r (hs.s v hv)).1
  unfold S_iIsSafeHistory
  simp only [rws_path, rws_i, rws_il_ss, len_path, len_il, iArePaths_v l hsm, hs.a, bnd_some, Bool.not_true, cnd_ff]
  rw [ifA_pos (by simp; omega)]
  simp only [rep_i, List.length_replicate, Int.toNat_natCast]
  refine run_true (fun k (last : List Int) => ((l, h, (l.length : Int), (k : Int)), last)) l.length (fun k last => last.length = l.length ∧ ∀ (j : Nat) (x : Int), j < k → last[j]? = some x → x = -1) (List.replicate l.length 0) rfl (by omega) ⟨by simp, fun j x hj _ => by omega⟩ ?_ ?_
  · -- all are -1: the history
    rintro rec last ⟨h1, h2⟩
    simp only [ltF, cnd_ff, rws_path, rws_il_ss, rws_i, len_il]
    refine run_true (fun k (last : List Int) => ((l, h, h, (h.length : Int), (k : Int)), last)) h.length (fun k last => LastOk h k l.length last) last rfl (by omega) ⟨h1, fun j x hx => .inl (h2 j x (by have := (List.getElem?_eq_some_iff.1 hx).1; omega) hx)⟩ ?_ ?_
    · rintro rec2 last' _
      simp only [ltF, cnd_ff]
    · rintro rec2 s last' hs2 hlo hrec
      have hv := List.getElem?_eq_getElem hs2
      generalize hve : h[s] = v at hv
      have hvm := List.mem_of_getElem? hv
      have hvl := hlen v hvm
      simp only [ltT hs2, cnd_tt, geti_il_ss, getZ_at hv, rws_path, rws_i, rws_il_ss, iIsSafeLights_v l v hsm, hs.s v hvm, bnd_some, Bool.not_true, cnd_ff, len_path]
      refine run_true (fun k (last : List Int) => ((l, h, (s : Int), v, h, (h.length : Int), (s : Int), l, (l.length : Int), (k : Int)), last)) l.length (fun _ last => last' = last) last' rfl (by omega) rfl ?_ ?_
      · -- what is green is noted
        rintro rec3 _ rfl
        simp only [ltF, cnd_ff, rws_path, rws_il_ss, rws_i, len_path]
        refine run_true (fun k (last : List Int) => ((l, h, (s : Int), v, h, (h.length : Int), (s : Int), (l.length : Int), (k : Int)), last)) l.length (fun _ last => LastOk h (s + 1) l.length last) last' rfl (by omega) ⟨hlo.1, fun j x hx => (hlo.2 j x hx).imp id fun ⟨s', u, a1, a2, a3, a4⟩ => ⟨s', u, by omega, a2, a3, a4⟩⟩ ?_ ?_
        · rintro rec4 last4 hlo4
          simp only [ltF, cnd_ff, rws_path, rws_il_ss, rws_i, W_n1 (show s ≤ 9223372036854775806 by omega)]
          exact hrec last4 hlo4
        · rintro rec4 i last4 hi hlo4 hrec4
          have hvi : v[i]? = some v[i] := List.getElem?_eq_getElem (by omega)
          simp only [ltT hi, cnd_tt, geti_i, getZ_at hvi, rws_path, rws_il_ss, rws_i, W_n1 (show i ≤ 9223372036854775806 by omega)]
          simp only [Int.natCast_succ] at hrec4
          by_cases c : v[i] = 1
          · rw [show (v[i] == 1) = true by simp [c], cnd_tt, ifA_pos (by rw [len_i, hlo4.1]; constructor <;> omega)]
            simp only [getn_i, Int.toNat_natCast, getN_at (List.getElem?_eq_getElem (show i < last4.length by rw [hlo4.1]; exact hi)), set_i]
            refine hrec4 _ ⟨by rw [List.length_set]; exact hlo4.1, fun j x hx => ?_⟩
            by_cases cj : i = j
            · subst cj
              rw [List.getElem?_set_self (by rw [hlo4.1]; exact hi)] at hx
              exact .inr ⟨s, v, by omega, (Option.some.inj hx).symm, hv, by rw [hvi, c]⟩
            · rw [List.getElem?_set_ne cj] at hx
              exact hlo4.2 j x hx
          · rw [show (v[i] == 1) = false by simp [c], cnd_ff]
            exact hrec4 _ hlo4
      · -- what starts is held against all others
        rintro rec3 i _ hi rfl hrec3
        have hli : l[i]? = some l[i] := List.getElem?_eq_getElem hi
        have hvi : v[i]? = some v[i] := List.getElem?_eq_getElem (by omega)
        have hrec3 := hrec3 last' rfl
        simp only [Int.natCast_succ] at hrec3
        simp only [ltT hi, cnd_tt, geti_path, getZ_at hli, geti_i, getZ_at hvi, rws_path, rws_il_ss, rws_i, len_path, W_n1 (show i ≤ 9223372036854775806 by omega)]
        by_cases c : v[i] = 1
        · rw [show (v[i] != 1) = false by simp [c], cnd_ff]
          have inner : (s = 0 ∨ ∃ u, 0 < s ∧ h[s - 1]? = some u ∧ u[i]? ≠ some 1) → ∀ (F : ((List Path × List (List Int) × Int × List Int × List (List Int) × Int × Int × List Path × Int × Int × List Path × Int × Int) × Path × List Int → Option Bool) → (List Path × List (List Int) × Int × List Int × List (List Int) × Int × Int × List Path × Int × Int × List Path × Int × Int) × Path × List Int → Option Bool),
              (∀ rec4, F rec4 ((l, h, (s : Int), v, h, (h.length : Int), (s : Int), l, (l.length : Int), (i : Int), l, (l.length : Int), (l.length : Int)), l[i], last') = some true) →
              (∀ rec4 (j : Nat) (q : Path) (x : Int), l[j]? = some q → last'[j]? = some x → F rec4 ((l, h, (s : Int), v, h, (h.length : Int), (s : Int), l, (l.length : Int), (i : Int), l, (l.length : Int), (j : Int)), l[i], last') = if conflict l[i] q = true ∧ 0 ≤ x ∧ (s : Int) - x ≤ clearOf q then some false else rec4 ((l, h, (s : Int), v, h, (h.length : Int), (s : Int), l, (l.length : Int), (i : Int), l, (l.length : Int), ((j + 1 : Nat) : Int)), l[i], last')) →
              iter F NN ((l, h, (s : Int), v, h, (h.length : Int), (s : Int), l, (l.length : Int), (i : Int), l, (l.length : Int), (0 : Int)), l[i], last') = some true := fun hst F f0 f1 => by
            refine run_true (fun k (_ : Unit) => ((l, h, (s : Int), v, h, (h.length : Int), (s : Int), l, (l.length : Int), (i : Int), l, (l.length : Int), (k : Int)), l[i], last')) l.length (fun _ _ => True) () rfl (by omega) trivial (fun rec4 _ _ => f0 rec4) fun rec4 j _ hj _ hr4 => ?_
            have hlj : l[j]? = some l[j] := List.getElem?_eq_getElem hj
            have hxj : last'[j]? = some (last'[j]'(by rw [hlo.1]; exact hj)) := List.getElem?_eq_getElem _
            generalize last'[j]'(by rw [hlo.1]; exact hj) = x at hxj
            rw [f1 rec4 j _ x hlj hxj, if_neg]
            · exact hr4 () trivial
            · rintro ⟨d1, d2, d3⟩
              rcases hlo.2 j x hxj with e | ⟨s', u', e1, e2, e3, e4⟩
              · omega
              · rcases hst with rfl | ⟨u, g1, g2, g3⟩
                · omega
                · have := hs.g (s - 1) s' i j l[i] l[j] v u u' (by omega) (by rw [show s - 1 + 1 = s by omega]; exact hv) g2 e3 hli hlj (by rw [hvi, c]) g3 e4 d1
                  omega
          by_cases c0 : s = 0
          · rw [show decide ((s : Int) > 0) = false from decide_eq_false (by omega), cnd_ff]
            refine inner (.inl c0) _ (fun rec4 => ?_) (fun rec4 j q x hq hx => ?_)
            · simp only [ltF, cnd_ff, rws_path, rws_il_ss, rws_i, W_n1 (show i ≤ 9223372036854775806 by omega)]
              exact hrec3
            · have hj : j < l.length := (List.getElem?_eq_some_iff.1 hq).1
              have hxr : -1 ≤ x ∧ x < 1000 := by rcases hlo.2 j x hx with e | ⟨s', _, e1, e2, _⟩ <;> omega
              simp only [ltT hj, cnd_tt, geti_path, getZ_at hq, iConflict_v, bnd_some, iClearOf_v, rws_path, rws_il_ss, rws_i, W_n1 (show j ≤ 9223372036854775806 by omega), Int.natCast_succ]
              cases conflict l[i] q with
              | false => rw [cnd_ff, if_neg (by simp)]
              | true =>
                rw [cnd_tt, ifA_pos (by rw [len_i, hlo.1]; constructor <;> omega)]
                simp only [getn_i, Int.toNat_natCast, getN_at hx]
                by_cases d : 0 ≤ x
                · rw [show decide (x ≥ 0) = true from decide_eq_true d, cnd_tt, ifA_pos (by rw [len_i, hlo.1]; constructor <;> omega)]
                  simp only [getn_i, Int.toNat_natCast, getN_at hx, W_id (show -9223372036854775808 ≤ (s : Int) - x by omega) (by omega)]
                  by_cases e : (s : Int) - x ≤ clearOf q
                  · rw [decide_eq_true e, cnd_tt, if_pos ⟨trivial, d, e⟩]
                  · rw [decide_eq_false e, cnd_ff, if_neg (fun h => e h.2.2)]
                · rw [show decide (x ≥ 0) = false from decide_eq_false d, cnd_ff, if_neg (fun h => d h.2.1)]
          · have hu : h[s - 1]? = some (h[s - 1]'(by omega)) := List.getElem?_eq_getElem _
            generalize h[s - 1]'(by omega) = u at hu
            have hul := hlen u (List.mem_of_getElem? hu)
            have hui : u[i]? = some (u[i]'(by omega)) := List.getElem?_eq_getElem _
            simp only [show decide ((s : Int) > 0) = true from decide_eq_true (by omega), cnd_tt, show W ((s : Int) - 1) = ((s - 1 : Nat) : Int) by rw [W_id (by omega) (by omega)]; omega, geti_il_ss, getZ_at hu, geti_i, getZ_at hui]
            by_cases c1 : u[i]'(by omega) = 1
            · rw [show ((u[i]'(by omega)) == 1) = true by simp [c1], cnd_tt]
              exact hrec3
            rw [show ((u[i]'(by omega)) == 1) = false by simp [c1], cnd_ff]
            refine inner (.inr ⟨u, by omega, hu, by rw [hui]; simp [c1]⟩) _ (fun rec4 => ?_) (fun rec4 j q x hq hx => ?_)
            · simp only [ltF, cnd_ff, rws_path, rws_il_ss, rws_i, W_n1 (show i ≤ 9223372036854775806 by omega)]
              exact hrec3
            · have hj : j < l.length := (List.getElem?_eq_some_iff.1 hq).1
              have hxr : -1 ≤ x ∧ x < 1000 := by rcases hlo.2 j x hx with e | ⟨s', _, e1, e2, _⟩ <;> omega
              simp only [ltT hj, cnd_tt, geti_path, getZ_at hq, iConflict_v, bnd_some, iClearOf_v, rws_path, rws_il_ss, rws_i, W_n1 (show j ≤ 9223372036854775806 by omega), Int.natCast_succ]
              cases conflict l[i] q with
              | false => rw [cnd_ff, if_neg (by simp)]
              | true =>
                rw [cnd_tt, ifA_pos (by rw [len_i, hlo.1]; constructor <;> omega)]
                simp only [getn_i, Int.toNat_natCast, getN_at hx]
                by_cases d : 0 ≤ x
                · rw [show decide (x ≥ 0) = true from decide_eq_true d, cnd_tt, ifA_pos (by rw [len_i, hlo.1]; constructor <;> omega)]
                  simp only [getn_i, Int.toNat_natCast, getN_at hx, W_id (show -9223372036854775808 ≤ (s : Int) - x by omega) (by omega)]
                  by_cases e : (s : Int) - x ≤ clearOf q
                  · rw [decide_eq_true e, cnd_tt, if_pos ⟨trivial, d, e⟩]
                  · rw [decide_eq_false e, cnd_ff, if_neg (fun h => e h.2.2)]
                · rw [show decide (x ≥ 0) = false from decide_eq_false d, cnd_ff, if_neg (fun h => d h.2.1)]
        · rw [show (v[i] != 1) = true by simp [c], cnd_tt]
          exact hrec3
  · rintro rec i last hi ⟨h1, h2⟩ hrec
    simp only [Int.natCast_succ] at hrec
    simp only [ltT hi, cnd_tt, rws_path, rws_il_ss, rws_i, W_n1 (show i ≤ 9223372036854775806 by omega)]
    rw [ifA_pos (by rw [len_i, h1]; constructor <;> omega)]
    simp only [getn_i, Int.toNat_natCast, getN_at (List.getElem?_eq_getElem (show i < last.length by rw [h1]; exact hi)), set_i]
    refine hrec _ ⟨by rw [List.length_set]; exact h1, fun j x hj hx => ?_⟩
    by_cases cj : i = j
    · subst cj
      rw [List.getElem?_set_self (by rw [h1]; exact hi)] at hx
      exact (Option.some.inj hx).symm
    · rw [List.getElem?_set_ne cj] at hx
      exact h2 j x (by omega) hx
end Go.Sh
