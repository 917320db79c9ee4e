/- Plans: what a path shows in a cycle; services. -/
import Derived.Test.YteaoohmablanhaaG2
set_option linter.all false
namespace Go.Sh
open Go.Fx
/-- what a path shows in a part, so many seconds after it began -/
def li (l : List Path) (p : List Part) (id : Int) (i s : Nat) : Int := match p[i]? with
  | some x => if has x.stage id = true then (if (s : Int) < x.green ∨ has (nextOf p i).stage id = true then 1 else if (s : Int) < x.green + clearOf (pathAt l id) then 2 else 0) else 0
  | none => 0
theorem sl9Light_v (l : List Path) (p : List Part) (h : Sm l) (hp : SmL p) (hpl : isPlan l p = true) (id : Int) (hid : ¬ findPath l id < 0) (i s : Nat) (hi : i < p.length) : S_sl9Light l p (i : Int) (s : Int) id = some (li l p id i s) := by
  have hs := hp.1
  unfold Sm at hs
  obtain ⟨h1, _, h3, _⟩ := isPlan_spec hpl
  have hx : p[i]? = some p[i] := List.getElem?_eq_getElem hi
  have hg := h3 _ (List.mem_of_getElem? hx)
  have hc := clearOf_r (pathAt l id)
  have e : Int.tmod ((i : Int) + 1) (p.length : Int) = (((i + 1) % p.length : Nat) : Int) := tmod_n (a := i + 1)
  unfold S_sl9Light li
  rw [hx]
  simp [getZ_at hx, W_n1 (show i ≤ 9223372036854775806 by omega), e, getZ_next h1 i, sl6Has_v _ _ (hp.2 _ (List.mem_of_getElem? hx)), sl6Has_v _ _ (nextOf_sm hp h1 i), sFindPath_v l _ h, getZ_find hid, sClearOf_v, W_id (show -9223372036854775808 ≤ p[i].green + clearOf (pathAt l id) by omega) (by omega)]
  rw [ifA_pos (ne_nil1 h1)]
  cases has p[i].stage id with
  | false => simp
  | true =>
    simp [cnd_if]
    by_cases c1 : (s : Int) < p[i].green
    · simp [c1]
    · simp [c1]
      cases has (nextOf p i).stage id with
      | true => simp
      | false =>
        simp
        by_cases c2 : (s : Int) < p[i].green + clearOf (pathAt l id) <;> simp [c2]
/-- where a second of a cycle lies -/
def goA : List Nat → Nat → Nat → Nat × Nat
  | [], s, i => (i, s)
  | n :: r, s, i => if s < n then (i, s) else goA r (s - n) (i + 1)
theorem goA_lt : ∀ (r : List Nat) (s i : Nat), s < r.sum → (goA r s i).1 < i + r.length ∧ i ≤ (goA r s i).1
  | [], s, i, h => by simp at h
  | n :: r, s, i, h => by
    unfold goA
    split
    · simp
    · have := goA_lt r (s - n) (i + 1) (by simp at h; omega)
      simp only [List.length_cons]
      omega
theorem partAt_loop {V : Type} {F : (V → Option (Int × Int)) → V → Option (Int × Int)} (L : List Nat) (st : Int → Int → V) (hl : L.sum ≤ 390)
    (h1 : ∀ rec (i s : Nat) n, L[i]? = some n → s ≤ 390 → F rec (st (s : Int) (i : Int)) = if s < n then some ((i : Int), (s : Int)) else rec (st ((s - n : Nat) : Int) ((i + 1 : Nat) : Int))) :
    ∀ (m : Nat) (i s : Nat), L.length - i < m → s < (L.drop i).sum → iter F m (st (s : Int) (i : Int)) = some (((goA (L.drop i) s i).1 : Int), ((goA (L.drop i) s i).2 : Int))
  | 0, i, s, hm, _ => by omega
  | m + 1, i, s, hm, hs => by
    rw [iter_succ]
    rcases Nat.lt_or_ge i L.length with hlt | hge
    · have hx : L[i]? = some L[i] := List.getElem?_eq_getElem hlt
      have hle : (L.drop i).sum ≤ L.sum := by
        conv => rhs; rw [← List.take_append_drop i L]
        rw [List.sum_append]; omega
      rw [h1 _ i s _ hx (by omega)]
      rw [List.drop_eq_getElem_cons hlt] at hs ⊢
      simp only [List.sum_cons] at hs
      unfold goA
      split
      · rfl
      · exact partAt_loop L st hl h1 m (i + 1) (s - L[i]) (by omega) (by omega)
    · rw [List.drop_of_length_le hge] at hs
      simp at hs
theorem partAt_run {V : Type} (L : List Nat) (st : Int → Int → V) (hl : L.sum ≤ 390) (hl2 : L.length ≤ 1048576) {F : (V → Option (Int × Int)) → V → Option (Int × Int)} {v : V} (t : Nat) (ht : t < L.sum) (hv : v = st (t : Int) 0)
    (h1 : ∀ rec (i s : Nat) n, L[i]? = some n → s ≤ 390 → F rec (st (s : Int) (i : Int)) = if s < n then some ((i : Int), (s : Int)) else rec (st ((s - n : Nat) : Int) ((i + 1 : Nat) : Int))) :
    iter F NN v = some (((goA L t 0).1 : Int), ((goA L t 0).2 : Int)) := by
  rw [hv]
  exact partAt_loop L st hl h1 NN 0 t (NN_big (by omega)) (by simpa using ht)
theorem iPartAt_v (l : List Path) (p : List Part) (h : Sm l) (hp : SmL p) (hpl : isPlan l p = true) (t : Nat) (ht : t < cyc l p) : S_iPartAt l p (t : Int) = some (((goA (lens l p) t 0).1 : Int), ((goA (lens l p) t 0).2 : Int)) := by
  have hs := hp.1
  unfold Sm at hs
  obtain ⟨c1, c2⟩ := cyc_r hpl
  have hc : cyc l p = (lens l p).sum := by unfold cyc; rw [if_pos hpl]
  have e : Int.tmod (t : Int) (cyc l p : Int) = (t : Int) := by rw [tmod_n, Nat.mod_eq_of_lt ht]
  unfold S_iPartAt
  simp [iCycle_v l p h hp, iInRange_v, show ¬ (cyc l p : Int) = 0 by omega, show ((cyc l p : Int) == 0) = false by simp; omega, show (t : Int) ≤ 1000000 by omega, e, show ¬ cyc l p = 0 by omega, show (cyc l p == 0) = false by simp; omega]
  refine partAt_run (lens l p) (fun s i => (l, p, s, i)) (by omega) (by rw [lens_len]; omega) t (by omega) rfl fun rec i s n hn hs' => ?_
  have hi : i < p.length := by
    have := (List.getElem?_eq_some_iff.1 hn).1
    rwa [lens_len] at this
  rw [lens_at hi] at hn
  cases hn
  have e2 := (lg_at hpl (List.getElem?_eq_getElem hi)).2.2
  simp [ilongOf_v l p h hp hpl i hi, W_n1 (show i ≤ 9223372036854775806 by omega), W_id (show -9223372036854775808 ≤ (s : Int) - (lg l p i : Int) by omega) (by omega), cnd_if]
  by_cases c : lg l p i ≤ s
  · rw [if_pos c, if_neg (by omega), Int.natCast_sub c]
  · rw [if_neg c, if_pos (by omega)]
theorem goA_at (l : List Path) (p : List Part) (hpl : isPlan l p = true) (t : Nat) (ht : t < cyc l p) : (goA (lens l p) t 0).1 < p.length := by
  have hc : cyc l p = (lens l p).sum := by unfold cyc; rw [if_pos hpl]
  have := goA_lt (lens l p) t 0 (by omega)
  rw [lens_len] at this
  omega
theorem iLightAt_v (l : List Path) (p : List Part) (h : Sm l) (hp : SmL p) (hpl : isPlan l p = true) (id : Int) (hid : ¬ findPath l id < 0) (t : Nat) (ht : t < cyc l p) : S_iLightAt l p (t : Int) id = some (li l p id (goA (lens l p) t 0).1 (goA (lens l p) t 0).2) := by
  have hs := hp.1
  unfold Sm at hs
  have hi := goA_at l p hpl t ht
  obtain ⟨_, x, _, _, hxid⟩ := findPath_lt hid
  have hpid : (pathAt l id).id = id := by
    obtain ⟨i, x, h1, h2, h3⟩ := findPath_lt hid
    unfold pathAt
    rw [h2, Int.toNat_natCast, h1]; exact h3
  unfold S_iLightAt S_ishown
  generalize hgi : (goA (lens l p) t 0).1 = i at hi
  generalize hgs : (goA (lens l p) t 0).2 = s
  have hx : p[i]? = some p[i] := List.getElem?_eq_getElem hi
  obtain ⟨h1, _, h3, _⟩ := isPlan_spec hpl
  have hg := h3 _ (List.mem_of_getElem? hx)
  have hc := clearOf_r (pathAt l id)
  unfold li
  rw [hx]
  simp [iFindPath_v l _ h, hid, getZ_find hid, iPartAt_v l p h hp hpl t ht, hgi, hgs, getZ_at hx, hpid, slices_Contains_int_int_v _ _ (hp.2 _ (List.mem_of_getElem? hx)), inextStage_v p hp h1 i hi, slices_Contains_int_int_v _ _ (nextOf_sm hp h1 i), iClearOf_v, W_id (show -9223372036854775808 ≤ p[i].green + clearOf (pathAt l id) by omega) (by omega), show ¬ (i : Int) < 0 by omega]
  cases has p[i].stage id with
  | false => simp
  | true =>
    simp [cnd_if]
    by_cases c1 : (s : Int) < p[i].green
    · simp [c1]
    · simp [c1]
      cases has (nextOf p i).stage id with
      | true => simp
      | false =>
        simp
        by_cases c2 : (s : Int) < p[i].green + clearOf (pathAt l id) <;> simp [c2]
def rowOf (l : List Path) (p : List Part) (id : Int) : List Int := (List.range p.length).flatMap fun i => (List.range (lg l p i)).map fun s => li l p id i s
theorem goA_map {α : Type} (f : Nat → Nat → α) : ∀ (L : List Nat) (i : Nat), (List.range L.sum).map (fun t => f (goA L t i).1 (goA L t i).2) = (L.zipIdx i).flatMap fun x => (List.range x.1).map fun s => f x.2 s
  | [], i => rfl
  | n :: L, i => by
    rw [List.sum_cons, List.range_add, List.map_append, List.map_map, List.zipIdx_cons, List.flatMap_cons, ← goA_map f L (i + 1)]
    congr 1
    · refine List.map_congr_left fun t ht => ?_
      have : t < n := by simpa using ht
      unfold goA
      rw [if_pos this]
    · refine List.map_congr_left fun t _ => ?_
      have e : goA (n :: L) (n + t) i = goA L t (i + 1) := by
        rw [goA, if_neg (by omega)]
        congr 1; omega
      simp only [Function.comp_apply]
      rw [e]
theorem rowOf_eq (l : List Path) (p : List Part) (id : Int) : rowOf l p id = (List.range (lens l p).sum).map fun t => li l p id (goA (lens l p) t 0).1 (goA (lens l p) t 0).2 := by
  rw [goA_map (fun i s => li l p id i s) (lens l p) 0]
  unfold rowOf lens
  rw [List.zipIdx_map, List.flatMap_map]
  have : (List.range p.length).zipIdx 0 = (List.range p.length).map fun i => (i, i) := by
    apply List.ext_getElem?
    intro j
    rw [List.getElem?_zipIdx, List.getElem?_map]
    by_cases hj : j < p.length
    · simp [hj]
    · simp [hj]
  rw [this, List.flatMap_map]
  rfl
theorem rowOf_len {l : List Path} {p : List Part} (hpl : isPlan l p = true) (id : Int) : (rowOf l p id).length = cyc l p := by
  rw [rowOf_eq]; simp [cyc, hpl]
end Go.Sh
