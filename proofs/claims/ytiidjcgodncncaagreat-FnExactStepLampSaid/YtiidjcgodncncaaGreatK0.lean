/- How many lamps a town has at most. -/
import Derived.Test.YtiidjcgodncncaaGreatQL
set_option linter.all false
namespace Go.Sh
open Go.Fx
theorem nodup_bound : ∀ (n : Nat) (l : List Nat), l.Nodup → (∀ x ∈ l, x < n) → l.length ≤ n
  | 0, l, _, h => by
    cases l with
    | nil => simp
    | cons a l => exact absurd (h a (List.mem_cons_self ..)) (Nat.not_lt_zero _)
  | n + 1, l, hn, h => by
    have h1 := nodup_bound n (l.erase n) (hn.erase n) (fun x hx => by
      have h2 := h x (List.mem_of_mem_erase hx)
      have h3 : x ≠ n := fun e => by subst e; exact (hn.not_mem_erase) hx
      omega)
    rw [List.length_erase] at h1
    split at h1 <;> omega
theorem goL_get (l : List Path) (x : List Lamp) : ∀ (r : List Lamp) (k : Nat), goL l x k r = true → ∀ (j : Nat) (p : Lamp), r[j]? = some p → lampOk l p = true ∧ (x.take (k + j)).all (noDup p) = true
  | [], k, _, j, p, h => by simp at h
  | q :: r, k, hg, j, p, h => by
    simp only [goL, Bool.and_eq_true] at hg
    cases j with
    | zero => simp at h; subst h; exact hg.1
    | succ j =>
      have := goL_get l x r (k + 1) hg.2 j p (by simpa using h)
      rwa [show k + 1 + j = k + (j + 1) by omega] at this
theorem goP_mem : ∀ {l : List Path} {o : Option Int}, goP o l = true → ∀ p ∈ l, isPath p = true
  | [], _, _, p, hp => by cases hp
  | q :: l, o, h, p, hp => by
    cases o with
    | none =>
      simp only [goP, Bool.and_eq_true] at h
      rcases List.mem_cons.1 hp with rfl | hp
      · exact h.1
      · exact goP_mem h.2 p hp
    | some i =>
      simp only [goP, Bool.and_eq_true] at h
      rcases List.mem_cons.1 hp with rfl | hp
      · exact h.1.1
      · exact goP_mem h.2 p hp
theorem find_mem {l : List Path} {id : Int} (h : ¬ findPath l id < 0) : ∃ p ∈ l, p.id = id := by
  unfold findPath at h
  split at h
  · rename_i i hi
    obtain ⟨hlt, hp, _⟩ := List.findIdx?_eq_some_iff_getElem.1 hi
    exact ⟨l[i], List.getElem_mem hlt, by simpa using hp⟩
  · omega
theorem lamp_range {l : List Path} (hl : arePaths l = true) {p : Lamp} (h : lampOk l p = true) : 1 ≤ p.path ∧ p.path ≤ 20 ∧ 0 ≤ p.colour ∧ p.colour ≤ 1 := by
  unfold lampOk at h
  simp only [Bool.and_eq_true, Bool.not_eq_true', decide_eq_false_iff_not] at h
  unfold arePaths at hl
  rw [Bool.and_eq_true] at hl
  obtain ⟨q, hq, e⟩ := find_mem h.1
  have := goP_mem hl.2 q hq
  unfold isPath inR at this
  simp only [Bool.and_eq_true, decide_eq_true_eq] at this
  have h2 := h.2
  unfold inR at h2
  simp only [Bool.and_eq_true, decide_eq_true_eq] at h2
  omega
theorem areLamps_len {l : List Path} {x : List Lamp} (h : areLamps l x = true) : x.length ≤ 42 := by
  unfold areLamps at h
  rw [Bool.and_eq_true] at h
  obtain ⟨hg, hl⟩ := h
  have hat := goL_get l x x 0 hg
  let f : Lamp → Nat := fun q => (q.path * 2 + q.colour).toNat
  have h1 : (x.map f).length ≤ 42 := by
    refine nodup_bound 42 _ ?_ ?_
    · unfold List.Nodup
      rw [List.pairwise_map, List.pairwise_iff_getElem]
      intro i j hi hj hij e
      have ha := hat i x[i] (List.getElem?_eq_getElem hi)
      have hb := hat j x[j] (List.getElem?_eq_getElem hj)
      have ra := lamp_range hl ha.1
      have rb := lamp_range hl hb.1
      have hm : x[i] ∈ x.take (0 + j) := by
        rw [Nat.zero_add, List.mem_take_iff_getElem]
        exact ⟨i, by omega, rfl⟩
      have := List.all_eq_true.1 hb.2 _ hm
      unfold noDup at this
      simp only [Bool.not_eq_true', Bool.and_eq_false_iff, beq_eq_false_iff_ne, ne_eq] at this
      have e' : (x[i].path * 2 + x[i].colour).toNat = (x[j].path * 2 + x[j].colour).toNat := e
      omega
    · intro v hv
      obtain ⟨q, hq, rfl⟩ := List.mem_map.1 hv
      obtain ⟨i, hi⟩ := List.mem_iff_getElem?.1 hq
      have := lamp_range hl (hat i q hi).1
      show (q.path * 2 + q.colour).toNat < 42
      omega
  simpa using h1
theorem town_lamps {t : Town} (h : isTown t = true) : t.lamps.length ≤ 42 := areLamps_len (town_parts h).2.2.2.1
end Go.Sh
