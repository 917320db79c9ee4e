/- Top: what a plan shows leaves time to clear. -/
import Derived.Test.YtkbhcieejpbjpaaGreatU3
set_option linter.all false
namespace Go.Sh
open Go.Fx
theorem goA_eq : ∀ (L : List Nat) (t k i s n : Nat), L[i]? = some n → s < n → t = (L.take i).sum + s → goA L t k = (k + i, s)
  | [], t, k, i, s, n, h, _, _ => by simp at h
  | m :: L, t, k, i, s, n, h, hs, ht => by
    unfold goA
    cases i with
    | zero =>
      simp at h ht
      subst h ht
      rw [if_pos hs]; rfl
    | succ i =>
      simp at h ht
      rw [if_neg (by omega), goA_eq L (t - m) (k + 1) i s n h hs (by omega)]
      congr 1
      omega
theorem goA_ex : ∀ (L : List Nat) (t : Nat), t < L.sum → ∃ i s n, L[i]? = some n ∧ s < n ∧ t = (L.take i).sum + s
  | [], t, h => by simp at h
  | m :: L, t, h => by
    by_cases c : t < m
    · exact ⟨0, t, m, rfl, c, by simp⟩
    · simp at h
      obtain ⟨i, s, n, h1, h2, h3⟩ := goA_ex L (t - m) (by omega)
      exact ⟨i + 1, s, n, by simpa using h1, h2, by simp; omega⟩
theorem sum_next {L : List Nat} {i n : Nat} (h : L[i]? = some n) : (L.take (i + 1)).sum = (L.take i).sum + n := sum_take L i n h
theorem sum_full {L : List Nat} {i : Nat} (h : L.length ≤ i) : (L.take i).sum = L.sum := by rw [List.take_of_length_le h]
theorem sum_lt {L : List Nat} (i : Nat) : (L.take i).sum ≤ L.sum := by
  conv => rhs; rw [← List.take_append_drop i L]
  rw [List.sum_append]; omega
structure PS (l : List Path) (p : List Part) (t i s : Nat) : Prop where
  hi : i < p.length
  hs : s < lg l p i
  ht : t % cyc l p = ((lens l p).take i).sum + s
  he : goA (lens l p) (t % cyc l p) 0 = (i, s)
theorem PS.of {l : List Path} {p : List Part} {t i s : Nat} (h1 : i < p.length) (h2 : s < lg l p i) (h3 : t % cyc l p = ((lens l p).take i).sum + s) : PS l p t i s :=
  ⟨h1, h2, h3, (goA_eq _ _ 0 i s _ (lens_at h1) h2 h3).trans (by rw [Nat.zero_add])⟩
theorem cyc_sum {l : List Path} {p : List Part} (h : isPlan l p = true) : cyc l p = (lens l p).sum := by unfold cyc; rw [if_pos h]
theorem ps_ex {l : List Path} {p : List Part} (h : isPlan l p = true) (t : Nat) : ∃ i s, PS l p t i s := by
  have hc := cyc_r h
  obtain ⟨i, s, n, h1, h2, h3⟩ := goA_ex (lens l p) (t % cyc l p) (by rw [← cyc_sum h]; exact Nat.mod_lt _ (by omega))
  have hi : i < p.length := by have := (List.getElem?_eq_some_iff.1 h1).1; rwa [lens_len] at this
  rw [lens_at hi] at h1
  cases h1
  exact ⟨i, s, PS.of hi h2 h3⟩
theorem lg_pos {l : List Path} {p : List Part} (h : isPlan l p = true) {i : Nat} (hi : i < p.length) : 5 ≤ lg l p i := (lg_at h (List.getElem?_eq_getElem hi)).2.1
theorem ps_next {l : List Path} {p : List Part} (h : isPlan l p = true) {t i s : Nat} (hp : PS l p t i s) : (s + 1 < lg l p i ∧ PS l p (t + 1) i (s + 1)) ∨ (s + 1 = lg l p i ∧ PS l p (t + 1) ((i + 1) % p.length) 0) := by
  have hc := cyc_r h
  have hi := hp.hi
  have hs := hp.hs
  have ht := hp.ht
  have hsum := cyc_sum h
  have hnx := sum_next (lens_at (l := l) hi)
  have hle := sum_lt (L := lens l p) (i + 1)
  have hmod : t % cyc l p + 1 < cyc l p → (t + 1) % cyc l p = t % cyc l p + 1 := fun c => by
    rw [Nat.add_mod, Nat.mod_eq_of_lt (show 1 < cyc l p by omega), Nat.mod_eq_of_lt c]
  by_cases c : s + 1 < lg l p i
  · refine .inl ⟨c, PS.of hi c ?_⟩
    rw [hmod (by omega)]; omega
  · refine .inr ⟨by omega, ?_⟩
    by_cases c2 : i + 1 < p.length
    · rw [Nat.mod_eq_of_lt c2]
      have h5 := lg_pos h c2
      have h6 := sum_next (lens_at (l := l) c2)
      have h7 := sum_lt (L := lens l p) (i + 1 + 1)
      refine PS.of c2 (by omega) ?_
      rw [hmod (by omega)]; omega
    · have e : i + 1 = p.length := by omega
      rw [e, Nat.mod_self]
      have h8 : ((lens l p).take (i + 1)).sum = (lens l p).sum := sum_full (by rw [lens_len]; omega)
      have h5 := lg_pos h (show 0 < p.length by omega)
      refine PS.of (by omega) (by omega) ?_
      have h9 : t % cyc l p + 1 = cyc l p := by omega
      rw [Nat.add_mod, Nat.mod_eq_of_lt (show 1 < cyc l p by omega), h9, Nat.mod_self]
      simp
theorem li_is {l : List Path} {p : List Part} {n : Int} {i s : Nat} {x : Part} (hx : p[i]? = some x) : li l p n i s = 1 ↔ n ∈ x.stage ∧ ((s : Int) < x.green ∨ n ∈ (nextOf p i).stage) := by
  unfold li
  rw [hx]
  simp only
  constructor
  · intro h
    split at h
    · rename_i c
      refine ⟨has_mem.1 c, ?_⟩
      split at h
      · rename_i c2
        exact c2.imp id has_mem.1
      · split at h <;> omega
    · omega
  · rintro ⟨h1, h2⟩
    rw [if_pos (has_mem.2 h1), if_pos (h2.imp id has_mem.2)]
theorem li_r (l : List Path) (p : List Part) (n : Int) (i s : Nat) : 0 ≤ li l p n i s ∧ li l p n i s ≤ 2 := by
  unfold li
  repeat' split
  all_goals omega
theorem li_in {l : List Path} {p : List Part} {n : Int} {i s : Nat} {x : Part} (hx : p[i]? = some x) (h : li l p n i s ≠ 0) : n ∈ x.stage := by
  unfold li at h
  rw [hx] at h
  simp only at h
  split at h
  · rename_i c; exact has_mem.1 c
  · exact absurd rfl h
theorem plan_part {l : List Path} {p : List Part} (h : isPlan l p = true) {x : Part} (hx : x ∈ p) : together l x.stage = true := by
  unfold isPlan at h
  simp only [Bool.and_eq_true] at h
  have := List.all_eq_true.1 h.2.1 x hx
  unfold partOk at this
  simp only [Bool.and_eq_true] at this
  exact this.2.1
def LateP (p : List Part) (x : Part) (i s : Nat) (n d : Int) : Prop :=
  ((s : Int) < x.green → n ∈ x.stage ∨ (s : Int) + 1 ≤ d) ∧ (¬ (s : Int) < x.green → (n ∈ x.stage ∧ n ∈ (nextOf p i).stage) ∨ (n ∈ x.stage ∧ n ∉ (nextOf p i).stage ∧ (s : Int) - x.green + 1 ≤ d) ∨ (n ∉ x.stage ∧ (s : Int) + 1 ≤ d))
theorem lateP_same {l : List Path} {p : List Part} {x : Part} {i s : Nat} (hx : p[i]? = some x) {n d : Int} (h0 : 0 ≤ d) (hd : LateP p x i s n d ∨ (d = 0 ∧ li l p n i s = 1)) : LateP p x i (s + 1) n (d + 1) := by
  rcases hd with ⟨d1, d2⟩ | ⟨rfl, d2⟩
  · refine ⟨fun c => (d1 (by omega)).imp id fun h => by omega, fun c => ?_⟩
    by_cases c2 : (s : Int) < x.green
    · by_cases c4 : n ∈ x.stage
      · by_cases c3 : n ∈ (nextOf p i).stage
        · exact .inl ⟨c4, c3⟩
        · exact .inr (.inl ⟨c4, c3, by omega⟩)
      · exact .inr (.inr ⟨c4, by have := (d1 c2).resolve_left c4; omega⟩)
    · rcases d2 c2 with h | ⟨h1, h2, h3⟩ | ⟨h1, h2⟩
      · exact .inl h
      · exact .inr (.inl ⟨h1, h2, by omega⟩)
      · exact .inr (.inr ⟨h1, by omega⟩)
  · obtain ⟨e1, e2⟩ := (li_is hx).1 d2
    refine ⟨fun _ => .inl e1, fun c => ?_⟩
    by_cases c3 : n ∈ (nextOf p i).stage
    · exact .inl ⟨e1, c3⟩
    · refine .inr (.inl ⟨e1, c3, ?_⟩)
      have := e2.resolve_right c3
      omega
theorem lateP_turn {p : List Part} {x : Part} {i : Nat} {n d : Int} (h5 : 5 ≤ x.green) (h0 : 0 ≤ d) : LateP p x i 0 n (d + 1) := ⟨fun _ => .inr (by omega), fun c => absurd (show ((0 : Nat) : Int) < x.green by omega) c⟩
theorem gapP {l : List Path} {p : List Part} (h : isPlan l p = true) {x : Part} {i s : Nat} (hx : p[i]? = some x) (hs : s + 1 = lg l p i) {a b d : Int} (h0 : 0 ≤ d) (hd : LateP p x i s b d ∨ (d = 0 ∧ li l p b i s = 1)) (ha : li l p a i s ≠ 1) (hn : a ∈ (nextOf p i).stage)
    (hc : conflict (pathAt l a) (pathAt l b) = true) : clearOf (pathAt l b) < d + 1 := by
  have hr := clearOf_r (pathAt l b)
  have h2 := clearOf_two (conf_path hc).2
  obtain ⟨p1, p6, hg, hare⟩ := isPlan_spec h
  have hlg := (lg_at h hx).1
  have hxm := List.mem_of_getElem? hx
  have hg5 := hg x hxm
  have ht := plan_part h hxm
  have htn := plan_part h (List.mem_of_getElem? (nextOf_at p1 i))
  have hb : b ∉ (nextOf p i).stage := pair_no htn hn hc
  have hcb := clearBetween_r l x.stage (nextOf p i).stage
  have has : a ∉ x.stage := fun hm => ha ((li_is hx).2 ⟨hm, .inr hn⟩)
  have hcl : b ∈ x.stage → clearOf (pathAt l b) ≤ clearBetween l x.stage (nextOf p i).stage := fun hm => clear_ge ht htn (closes_mem.2 ⟨hm, hb⟩) (closes_mem.2 ⟨hn, has⟩) (by rw [conf_comm]; exact hc)
  have hs2 : (s : Int) + 1 = x.green + clearBetween l x.stage (nextOf p i).stage := by rw [← hlg]; omega
  by_cases c : (s : Int) < x.green
  · have hbs : b ∉ x.stage := fun hm => by have := hcl hm; omega
    rcases hd with ⟨d1, _⟩ | ⟨_, d2⟩
    · rcases d1 c with g | g
      · exact absurd g hbs
      · omega
    · exact absurd ((li_is hx).1 d2).1 hbs
  · rcases hd with ⟨_, d2⟩ | ⟨_, d2⟩
    · rcases d2 c with g | ⟨g1, g2, g3⟩ | ⟨g1, g2⟩
      · exact absurd g.2 hb
      · have := hcl g1
        omega
      · omega
    · exact absurd (((li_is hx).1 d2).2.resolve_left c) hb
def planLight (l : List Path) (p : List Part) (t : Nat) (q : Path) : Int := li l p q.id (goA (lens l p) (t % cyc l p) 0).1 (goA (lens l p) (t % cyc l p) 0).2
theorem planLight_at {l : List Path} {p : List Part} {t i s : Nat} (h : PS l p t i s) (q : Path) : planLight l p t q = li l p q.id i s := by
  unfold planLight
  rw [h.he]
def planH (l : List Path) (p : List Part) (n : Nat) : List (List Int) := (List.range n).map fun t => l.map (planLight l p t)
theorem planH_safe {l : List Path} {p : List Part} (h : isPlan l p = true) (n : Nat) : SafeH l (planH l p n) := by
  obtain ⟨p1, p6, hg, hare⟩ := isPlan_spec h
  have hl : ∀ (k t : Nat) (q : Path), planLight l p t q = 1 → ∃ i s x, PS l p (t + k) i s ∧ p[i]? = some x ∧ (LateP p x i s q.id k ∨ ((k : Int) = 0 ∧ li l p q.id i s = 1)) := fun k t q hb => by
    induction k with
    | zero =>
      obtain ⟨i, s, hp⟩ := ps_ex h t
      rw [planLight_at hp] at hb
      exact ⟨i, s, p[i]'hp.hi, hp, List.getElem?_eq_getElem hp.hi, .inr ⟨rfl, hb⟩⟩
    | succ k ih =>
      obtain ⟨i, s, x, hp, hx, hd⟩ := ih
      rw [show ((k + 1 : Nat) : Int) = (k : Int) + 1 by omega]
      rcases ps_next h hp with ⟨_, hp2⟩ | ⟨_, hp2⟩
      · exact ⟨i, s + 1, x, hp2, hx, .inl (lateP_same hx (by omega) hd)⟩
      · have hx2 := nextOf_at p1 i
        exact ⟨_, 0, nextOf p i, hp2, hx2, .inl (lateP_turn (hg _ (List.mem_of_getElem? hx2)).1 (by omega))⟩
  refine safeH_of hare (planLight l p) n (fun t => ?_) fun t s' q r hq hr h1 _ h2 h3 h4 h5 => ?_
  · obtain ⟨i, s, hp⟩ := ps_ex h t
    have hx := List.getElem?_eq_getElem hp.hi
    have e : l.map (planLight l p t) = l.map fun q => li l p q.id i s := by
      congr 1
      funext q
      exact planLight_at hp q
    rw [e]
    exact safe_of hare (plan_part h (List.mem_of_getElem? hx)) (fun q => li_r l p q.id i s) fun q _ hq => li_in hx hq
  · obtain ⟨i, s, x, hp, hx, hd⟩ := hl (t - s') s' r h4
    rw [show s' + (t - s') = t by omega] at hp
    rw [planLight_at hp] at h3
    rcases ps_next h hp with ⟨_, hp2⟩ | ⟨hs, hp2⟩
    · rw [planLight_at hp2] at h2
      obtain ⟨a1, a2⟩ := (li_is hx).1 h2
      refine absurd ((li_is hx).2 ⟨a1, a2.imp (fun h => ?_) id⟩) h3
      omega
    · rw [planLight_at hp2] at h2
      have ha := ((li_is (nextOf_at p1 i)).1 h2).1
      have := gapP h hx hs (by omega) hd h3 ha (by rw [own_at hare hq, own_at hare hr]; exact h5)
      rw [own_at hare hr] at this
      omega
end Go.Sh
