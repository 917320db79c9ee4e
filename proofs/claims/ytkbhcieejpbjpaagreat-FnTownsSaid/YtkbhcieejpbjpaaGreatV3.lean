/- FnTowns: a new town, what is seen, and the law. -/
import Derived.Test.YtkbhcieejpbjpaaGreatV2
set_option linter.all false
namespace Go.Sh
open Go.Fx
theorem run_true3 {A V : Type} {F : (V → Option Bool) → V → Option Bool} (st : Nat → A → V) (N : Nat) (J : Nat → A → Prop)
    (h0 : ∀ rec acc, J N acc → F rec (st N acc) = some true)
    (h1 : ∀ rec k acc, k < N → J k acc → (∀ acc', J (k + 1) acc' → rec (st (k + 1) acc') = some true) → F rec (st k acc) = some true) : ∀ (n k : Nat) (acc : A), N - k < n → k ≤ N → J k acc → iter F n (st k acc) = some true
  | 0, k, acc, h, _, _ => by omega
  | n + 1, k, acc, h, hk, hJ => by
    rw [iter_succ]
    by_cases c : k = N
    · subst c; exact h0 _ acc hJ
    · exact h1 _ k acc (by omega) hJ fun acc' hJ' => run_true3 st N J h0 h1 n (k + 1) acc' (by omega) (by omega) hJ'
theorem more_has3 {l : List Path} {a : List Int} {p : Path} {n : Int} (h : n ∈ a) : n ∈ more l a p := by
  unfold more
  split
  · rw [← has_mem, has_putI]; simp [has_mem.2 h]
  · exact h
theorem fold_more_has3 {l : List Path} : ∀ (r : List Path) (a : List Int) (n : Int), n ∈ a → n ∈ r.foldl (more l) a
  | [], _, _, h => h
  | p :: r, a, n, h => fold_more_has3 r _ n (more_has3 h)
theorem stage_one {l : List Path} {p : Path} (h : arePaths l = true) (hp : p ∈ l) : together l (addToStage l [p.id]) = true ∧ p.id ∈ addToStage l [p.id] := by
  have h1 := together_one h (find_own' hp)
  unfold addToStage
  rw [if_pos h1]
  exact ⟨fold_together h1, fold_more_has3 l _ _ (by simp)⟩
theorem cover_head {l : List Path} : ∀ (r : List Path) (c : List (List Int)), ∃ d, r.foldl (coverStep l) c = c ++ d
  | [], c => ⟨[], by simp⟩
  | p :: r, c => by
    obtain ⟨d, hd⟩ := cover_head r (coverStep l c p)
    rw [List.foldl_cons, hd]
    unfold coverStep
    split
    · exact ⟨d, rfl⟩
    · exact ⟨_, List.append_assoc ..⟩
theorem cover_cons {l : List Path} {p : Path} {r : List Path} (h : arePaths l = true) (hl : l = p :: r) : ∃ d, cover l = addToStage l [p.id] :: d := by
  unfold cover
  rw [if_pos h]
  conv => enter [1, d, 1, 3]; rw [hl]
  rw [List.foldl_cons]
  have : coverStep l [] p = [addToStage l [p.id]] := by unfold coverStep cov; simp
  rw [this]
  obtain ⟨d, hd⟩ := cover_head (l := l) r [addToStage l [p.id]]
  exact ⟨d, hd⟩
theorem town1_ok {l : List Path} {s : List Int} (h : arePaths l = true) (hs : together l s = true) (hne : s ≠ []) : isTown (town1 l s) = true ∧ (town1 l s).record.length = 1 ∧ (town1 l s).record[0]? = some (entryOf [] 0 (lightsNow (town1 l s))) := by
  have h12 := are_len h
  have hc : isControl l ⟨s, 0, [], 0⟩ = true := by
    unfold isControl
    have : s.isEmpty = false := by cases s with | nil => exact absurd rfl hne | cons _ _ => rfl
    simp [this, hs, together_nil, h, inR]
  have hlamps : areLamps l [] = true := by unfold areLamps; simp [goL, h]
  have hsafe := lightsOf_safe hc
  obtain ⟨v1, v2⟩ := safe_r hsafe
  have hrec : isRecord ([] ++ [entryOf [] 0 (lightsOf l ⟨s, 0, [], 0⟩)]) = true := by
    unfold isRecord
    rw [Bool.and_eq_true, decide_eq_true_eq]
    refine ⟨by simp, ?_⟩
    refine goR_snoc (y := entryOf [] 0 (lightsOf l ⟨s, 0, [], 0⟩)) (s := 0) (v := lightsOf l ⟨s, 0, [], 0⟩) ⟨rfl, rfl⟩ rfl rfl (by omega) v2 rfl (fun x hx => by cases hx) (fun _ => ⟨rfl, rfl⟩) fun e he => by simp at he
  have hadd : (addEntry [] 0 (lightsOf l ⟨s, 0, [], 0⟩)).1 = [entryOf [] 0 (lightsOf l ⟨s, 0, [], 0⟩)] := by
    unfold addEntry
    rw [if_pos hrec]
    rfl
  have hl : lightsNow (town1 l s) = lightsOf l ⟨s, 0, [], 0⟩ := by
    unfold lightsNow
    exact if_pos (mode_new hlamps)
  have hr : (town1 l s).record = [entryOf [] 0 (lightsOf l ⟨s, 0, [], 0⟩)] := hadd
  refine ⟨?_, by rw [hr]; rfl, by rw [hr, hl]; rfl⟩
  unfold isTown
  rw [hr]
  have hun : firstUnsafe l [entryOf [] 0 (lightsOf l ⟨s, 0, [], 0⟩)] = -1 := by
    unfold firstUnsafe
    rw [if_pos (show isRecord [entryOf [] 0 (lightsOf l ⟨s, 0, [], 0⟩)] = true from hrec)]
    unfold goU
    rw [if_pos (show isSafe l (entryOf [] 0 (lightsOf l ⟨s, 0, [], 0⟩)).lights = true from hsafe)]
    rfl
  show (isControl l ⟨s, 0, [], 0⟩ && areWants l [] && isPrio l ⟨0, 0⟩ && areLamps l [] && isRecord [entryOf [] 0 (lightsOf l ⟨s, 0, [], 0⟩)] && !([entryOf [] 0 (lightsOf l ⟨s, 0, [], 0⟩)]).isEmpty &&
    decide (firstUnsafe l [entryOf [] 0 (lightsOf l ⟨s, 0, [], 0⟩)] = -1) && decide ((lightsOf l ⟨s, 0, [], 0⟩).length = l.length) && decide (lastSec [entryOf [] 0 (lightsOf l ⟨s, 0, [], 0⟩)] ≤ 0) && inR 0 0 1000 && inR 0 0 1000000) = true
  have hrec' : isRecord [entryOf [] 0 (lightsOf l ⟨s, 0, [], 0⟩)] = true := hrec
  have hls : lastSec [entryOf [] 0 (lightsOf l ⟨s, 0, [], 0⟩)] = 0 := rfl
  rw [hc, hlamps, hrec', hun, hls, v1]
  simp [areWants, goW, isPrio, h, inR]
theorem newTown_is {l : List Path} : ((newTown l).2 = true → arePaths l = true ∧ l ≠ [] ∧ isTown (newTown l).1 = true ∧ (newTown l).1.record.length = 1 ∧ (newTown l).1.record[0]? = some (entryOf [] 0 (lightsNow (newTown l).1)) ∧ mode (newTown l).1.paths (newTown l).1.lamps (newTown l).1.power = 0) ∧ (arePaths l = true → l ≠ [] → (newTown l).2 = true) := by
  constructor
  · intro h
    have hare : arePaths l = true := by
      cases ha : arePaths l with
      | true => rfl
      | false =>
        have : cover l = [] := by unfold cover; rw [ha]; rfl
        unfold newTown at h
        rw [this] at h
        cases h
    have hne : l ≠ [] := fun e => by
      subst e
      have : cover [] = [] := by unfold cover; split <;> rfl
      unfold newTown at h
      rw [this] at h
      cases h
    refine ⟨hare, hne, ?_⟩
    cases l with
    | nil => exact absurd rfl hne
    | cons p r =>
      obtain ⟨d, hd⟩ := cover_cons hare rfl
      obtain ⟨s1, s2⟩ := stage_one hare (List.mem_cons_self ..)
      obtain ⟨t1, t2, t3⟩ := town1_ok hare s1 (fun e => by rw [e] at s2; cases s2)
      have he : newTown (p :: r) = (town1 (p :: r) (addToStage (p :: r) [p.id]), true) := by
        unfold newTown
        rw [hd]
        simp only
        rw [if_pos t1]
      rw [he]
      exact ⟨t1, t2, t3, mode_new (town_parts t1).2.2.2.1⟩
  · intro hare hne
    cases l with
    | nil => exact absurd rfl hne
    | cons p r =>
      obtain ⟨d, hd⟩ := cover_cons hare rfl
      obtain ⟨s1, s2⟩ := stage_one hare (List.mem_cons_self ..)
      obtain ⟨t1, t2, t3⟩ := town1_ok hare s1 (fun e => by rw [e] at s2; cases s2)
      unfold newTown
      rw [hd]
      simp only
      rw [if_pos t1]
theorem lights_len_now {t : Town} (h : isTown t = true) : (lightsNow t).length = t.paths.length := (safe_r (lightsNow_safe h)).1
theorem seen_len {t : Town} (h : isTown t = true) : (seenNow t).length = t.paths.length := by
  unfold seenNow
  split
  · unfold visible
    rw [if_pos (lights_len_now h), List.length_map, List.length_zip, lights_len_now h]
    omega
  · simp
theorem seen_at {t : Town} {i : Nat} {a b : Int} (ha : (seenNow t)[i]? = some a) (hb : (lightsNow t)[i]? = some b) : a = -1 ∨ a = b := by
  unfold seenNow at ha
  split at ha
  · unfold visible at ha
    split at ha
    · rw [List.getElem?_map] at ha
      cases hz : (t.paths.zip (lightsNow t))[i]? with
      | none => rw [hz] at ha; cases ha
      | some z =>
        rw [hz] at ha
        have h2 := (zip_at hz).2
        rw [hb] at h2
        simp only [Option.map_some, Option.some.injEq] at ha h2
        unfold seen1 at ha
        split at ha
        · exact .inl ha.symm
        · exact .inr (by rw [← ha, h2])
    · simp at ha
  · rw [List.getElem?_map] at ha
    cases hz : t.paths[i]? with
    | none => rw [hz] at ha; cases ha
    | some z => rw [hz] at ha; exact .inl (Option.some.inj ha).symm
theorem lsameInts_t (a : List Int) (h : Sm a) : S_lsameInts a a = some true := by
  have h' := h
  unfold Sm at h'
  unfold S_lsameInts
  simp only [rws_i, len_i, bne_self_eq_false, cnd_ff]
  refine (run_true3 (fun k (_ : Unit) => (a, (a, (k : Int)))) a.length (fun _ _ => True) ?_ ?_ NN 0 () (NN_big (by omega)) (Nat.zero_le _) trivial)
  · intro rec _ _
    simp only [ltNF, cnd_ff]
  · intro rec k _ hk _ hrec
    have hx := List.getElem?_eq_getElem hk
    simp only [ltN hk, cnd_tt, geti_i, getZ_at hx, bne_self_eq_false, cnd_ff, rws_i, W_n1 (show k ≤ 9223372036854775806 by omega)]
    exact hrec () trivial
theorem lFnTowns_v (code : List Int) (h : code.length ≤ maxLen ∧ ∀ y ∈ code, 0 ≤ y ∧ y ≤ 255) : S_lFnTowns code = some true := by
  unfold S_lFnTowns
  simp only [rws_y, lbig_v, bnd_some]
  by_cases hb : (code.length : Int) > 1048576
  · rw [show decide ((code.length : Int) > 1048576) = true by simpa using hb, cnd_tt]
  rw [show decide ((code.length : Int) > 1048576) = false by simpa using hb, cnd_ff]
  obtain ⟨l, e1, hl⟩ := sDrawNewTown_g code (by omega)
  obtain ⟨x, e2, hx⟩ := sDrawSeenNow_g code (by omega)
  obtain ⟨a, b, e3, ha, hb2⟩ := sDrawEqualTowns_g code (by omega)
  have hsn := seenNow_sm x hx
  have hln := lightsNow_sm x hx
  have hsn' := hsn
  have hln' := hln
  unfold Sm at hsn' hln'
  have hsafe : isTown x = true → S_iIsSafeLights x.paths (lightsNow x) = some true := fun ht => by rw [iIsSafeLights_v _ _ hx.1, lightsNow_safe ht]
  have heq : decide (a = b) = decide (b = a) := by rw [decide_eq_decide]; exact eq_comm
  obtain ⟨n1, n2⟩ := newTown_is (l := l)
  have tl : ∀ {F : (List Int × List Int × List Int × Int → Option Bool) → List Int × List Int × List Int × Int → Option Bool},
      (∀ rec (k : Nat), ((seenNow x)[k]? = none ∨ (lightsNow x)[k]? = none) → k ≤ (seenNow x).length → k ≤ (lightsNow x).length → F rec (code, (seenNow x, (lightsNow x, (k : Int)))) = some true) →
      (∀ rec (k : Nat) (u v : Int), (seenNow x)[k]? = some u → (lightsNow x)[k]? = some v → (u = -1 ∨ u = v) → rec (code, (seenNow x, (lightsNow x, ((k + 1 : Nat) : Int)))) = some true → F rec (code, (seenNow x, (lightsNow x, (k : Int)))) = some true) →
      iter F NN (code, (seenNow x, (lightsNow x, (0 : Int)))) = some true := fun h0 h1 => by
    refine run_true3 (fun k (_ : Unit) => (code, (seenNow x, (lightsNow x, (k : Int))))) (min (seenNow x).length (lightsNow x).length) (fun _ _ => True) (fun rec _ _ => h0 rec _ ?_ (by omega) (by omega)) (fun rec k _ hk _ hrec => ?_) NN 0 () (NN_big (by omega)) (Nat.zero_le _) trivial
    · rcases Nat.le_total (seenNow x).length (lightsNow x).length with c | c
      · exact .inl (List.getElem?_eq_none (by omega))
      · exact .inr (List.getElem?_eq_none (by omega))
    · have p1 : (seenNow x)[k]? = some ((seenNow x)[k]'(by omega)) := List.getElem?_eq_getElem _
      have p2 : (lightsNow x)[k]? = some ((lightsNow x)[k]'(by omega)) := List.getElem?_eq_getElem _
      exact h1 rec k _ _ p1 p2 (seen_at p1 p2) (hrec () trivial)
  simp only [e1, e2, bnd_some, rT_ss, rT_so, rT_oo, rT_uu, rws_path, rws_i, rws_y, len_path, len_i, iNewTown_v l hl, iArePaths_v l hl, iSeenNow_v x hx, iLightsNow_v x hx, iIsTown_v x hx, joinA]
  have fin : (bnd (S_iEqualTowns a b) fun r => bnd (S_iEqualTowns b a) fun r' => cnd (r == r') (S_iEqualTowns a a) (some false)) = some true := by
    rw [iEqualTowns_v a b ha, iEqualTowns_v b a hb2, iEqualTowns_v a a ha, bnd_some, bnd_some, heq]
    simp
  generalize hF : iter _ NN (code, (seenNow x, (lightsNow x, (0 : Int)))) = L
  have hL : L = some true := by
    rw [← hF]
    refine tl (fun rec k hk h1 h2 => ?_) (fun rec k u v hu hv huv hrec => ?_)
    · simp only [e3, bnd_some, bnd_id]
      rcases hk with hk | hk
      · rw [show decide ((k : Int) < ((seenNow x).length : Int)) = false from decide_eq_false (by have := List.getElem?_eq_none_iff.1 hk; omega), cnd_ff]
        exact fin
      · rw [show decide ((k : Int) < ((lightsNow x).length : Int)) = false from decide_eq_false (by have := List.getElem?_eq_none_iff.1 hk; omega), cnd_ff]
        cases decide ((k : Int) < ((seenNow x).length : Int)) with
        | true => rw [cnd_tt]; exact fin
        | false => rw [cnd_ff]; exact fin
    · have k1 : k < (seenNow x).length := (List.getElem?_eq_some_iff.1 hu).1
      have k2 : k < (lightsNow x).length := (List.getElem?_eq_some_iff.1 hv).1
      simp only [ltN k1, ltN k2, cnd_tt, geti_i, getZ_at hu, getZ_at hv, W_n1 (show k ≤ 9223372036854775806 by omega)]
      simp only [Int.natCast_succ] at hrec
      by_cases c : u = -1
      · rw [show (u != -1) = false by simp [c], cnd_ff]; exact hrec
      · rw [show (u != -1) = true by simp [c], cnd_tt, show (u != v) = false by simp [huv.resolve_left c], cnd_ff]; exact hrec
  subst hL
  have hns := newTown_sm hl
  have head : (newTown l).2 = true → (bnd (S_iIsTown (newTown l).1) fun r5 => cnd (!r5) (some false) (cnd (((List.map (noteR Own.own).enc (newTown l).1.record).length : Int) != 1) (some false) (bnd (S_iModeOf (newTown l).1) fun r6 => cnd (r6 != 0) (some false)
      (geti (noteR Own.shr) ((newTown l).1.record.map (noteR Own.own).enc) 0 fun (p7 : Note) => bnd (S_iLightsNow (newTown l).1) fun r8 => bnd (S_lsameInts p7.lights r8) fun r9 => cnd (!r9) (some false) (some true))))) = some true := fun hok => by
    obtain ⟨_, _, q3, q4, q5, q6⟩ := n1 hok
    have hlight := lightsNow_sm _ hns
    simp only [iIsTown_v _ hns, q3, bnd_some, Bool.not_true, cnd_ff, len_note, q4, iModeOf_v _ hns, q6, geti_note_so, getZ0 q5, iLightsNow_v _ hns]
    rw [show (((1 : Nat) : Int) != 1) = false from rfl, cnd_ff, show ((0 : Int) != 0) = false from rfl, cnd_ff]
    try simp only [geti_note_so]
    try rw [getZ0 q5]
    show (bnd (S_lsameInts (lightsNow (newTown l).1) (lightsNow (newTown l).1)) fun r9 => cnd (!r9) (some false) (some true)) = some true
    rw [lsameInts_t _ hlight, bnd_some]
    rfl
  cases hT : isTown x with
  | true =>
    simp only [seen_len hT, lights_len_now hT, bne_self_eq_false, cnd_ff, cnd_tt, hsafe hT, bnd_some, Bool.not_true]
    cases hok : (newTown l).2 with
    | true =>
      obtain ⟨q1, q2, _⟩ := n1 hok
      have hp : 0 < l.length := List.length_pos_iff.2 q2
      rw [q1, cnd_tt, show decide ((l.length : Int) > 0) = true from decide_eq_true (by omega), show (true != true) = false from rfl, cnd_ff, cnd_tt]
      exact head hok
    | false =>
      cases ha2 : arePaths l with
      | true =>
        have h0 : l = [] := by
          by_cases c : l = []
          · exact c
          · rw [n2 ha2 c] at hok; cases hok
        rw [cnd_tt, h0]
        rfl
      | false => rfl
  | false =>
    simp only [cnd_ff]
    cases hok : (newTown l).2 with
    | true =>
      obtain ⟨q1, q2, _⟩ := n1 hok
      have hp : 0 < l.length := List.length_pos_iff.2 q2
      rw [q1, cnd_tt, show decide ((l.length : Int) > 0) = true from decide_eq_true (by omega), show (true != true) = false from rfl, cnd_ff, cnd_tt]
      exact head hok
    | false =>
      cases ha2 : arePaths l with
      | true =>
        have h0 : l = [] := by
          by_cases c : l = []
          · exact c
          · rw [n2 ha2 c] at hok; cases hok
        rw [cnd_tt, h0]
        rfl
      | false => rfl
end Go.Sh
