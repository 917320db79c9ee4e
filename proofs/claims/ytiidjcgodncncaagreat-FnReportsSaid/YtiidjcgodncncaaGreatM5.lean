/- FnReports. -/
import Derived.Test.YtiidjcgodncncaaGreatM4
set_option linter.all false
namespace Go.Sh
open Go.Fx
def vd (r s : Report) : ByteArray :=
  if r.second = s.second ∧ inR r.light 0 2 = true ∧ inR s.light 0 2 = true then
    (if r.light = 0 then (if s.light = 0 then ⟨[98, 111, 116, 104].toArray⟩ else ⟨[102, 105, 114, 115, 116].toArray⟩) else if s.light = 0 then ⟨[115, 101, 99, 111, 110, 100].toArray⟩ else ⟨[110, 101, 105, 116, 104, 101, 114].toArray⟩)
  else ⟨[].toArray⟩
theorem iVerdict_d (r s : Report) : S_iVerdict r s = some (vd r s) := by
  unfold S_iVerdict vd
  simp only [iInRange_r, bnd_some, cnd_if]
  generalize inR r.light 0 2 = A
  generalize inR s.light 0 2 = B
  by_cases h1 : r.second = s.second <;> cases A <;> cases B <;> by_cases h4 : r.light = 0 <;> by_cases h5 : s.light = 0 <;> simp [h1, h4, h5]
theorem lbig_v (c : List Int) : S_lbig c = some (decide ((c.length : Int) > 1048576)) := by
  unfold S_lbig
  simp
theorem iIsReport_b (t : Town) (r : Report) (h : SmTown t) : S_iIsReport t r = some (if (report t r.path r.second).2 = true then eqB [(I (report t r.path r.second).1.path), (I (report t r.path r.second).1.second), (I (report t r.path r.second).1.light), (I (report t r.path r.second).1.since), (I (report t r.path r.second).1.other)] [(I r.path), (I r.second), (I r.light), (I r.since), (I r.other)] else false) := by
  unfold S_iIsReport
  simp only [rC_v, rT_ss, iReportOf_v t _ _ h, bnd_some, cnd_if]
  split <;> rfl
theorem report_back {t : Town} {p s : Int} (h : (report t p s).2 = true) : (report t p s).1.path = p ∧ (report t p s).1.second = s := by
  obtain ⟨_, m, q, _, _, _, i, e, x, _, _, _, _, _, _, _, _, _, hr⟩ := report_of h
  rw [hr]; exact ⟨rfl, rfl⟩
def Good (t : Town) (s : Int) (x : Report) : Prop := (report t x.path s).2 = true ∧ x = (report t x.path s).1
theorem all_good {t : Town} {s : Int} {x : Report} (h : x ∈ reportAll t s) : Good t s x := by
  unfold reportAll at h
  obtain ⟨p, hp, hx⟩ := List.mem_filterMap.1 h
  split at hx
  · rename_i h2
    cases hx
    have := report_back h2
    unfold Good
    rw [this.1]
    exact ⟨h2, rfl⟩
  · cases hx
theorem good_is {t : Town} {s : Int} {x : Report} (h : Good t s x) : ∃ (m : Nat) (q : Path) (e : Note) (v : Int), findPath t.paths x.path = (m : Int) ∧ t.paths[m]? = some q ∧ entry t.record s = some e ∧ e ∈ t.record ∧ e.lights[m]? = some v ∧ x.light = v ∧ inR v 0 2 = true ∧ x.second = s ∧ isTown t = true := by
  obtain ⟨ht, m, q, q2, q1, hq, i, e, v, he, e1, e3, e2, hsec, hx, h0, h2, hn, hr⟩ := report_of h.1
  refine ⟨m, q, e, v, q2, q1, e3, he, hx, ?_, ?_, ?_, ht⟩
  · rw [h.2, hr]
  · unfold inR; simp [h0, h2]
  · rw [h.2, hr]
theorem good_pair {t : Town} {s : Int} {x y : Report} (hx : Good t s x) (hy : Good t s y) : ∃ (m n : Nat) (p q : Path), findPath t.paths x.path = (m : Int) ∧ t.paths[m]? = some p ∧ findPath t.paths y.path = (n : Int) ∧ t.paths[n]? = some q ∧
    vd x y ≠ ⟨[].toArray⟩ ∧ (conflict p q = true → vd x y ≠ ⟨[110, 101, 105, 116, 104, 101, 114].toArray⟩) := by
  obtain ⟨m, p, e, v, a1, a2, a3, a4, a5, a6, a7, a8, a9⟩ := good_is hx
  obtain ⟨n, q, e', v', b1, b2, b3, b4, b5, b6, b7, b8, b9⟩ := good_is hy
  rw [a3] at b3
  cases b3
  refine ⟨m, n, p, q, a1, a2, b1, b2, ?_, fun hc => ?_⟩
  · unfold vd
    rw [if_pos ⟨a8.trans b8.symm, by rw [a6]; exact a7, by rw [b6]; exact b7⟩]
    split <;> split <;> simp
  · unfold vd
    rw [if_pos ⟨a8.trans b8.symm, by rw [a6]; exact a7, by rw [b6]; exact b7⟩]
    by_cases c1 : x.light = 0
    · rw [if_pos c1]; split <;> simp
    · by_cases c2 : y.light = 0
      · rw [if_neg c1, if_pos c2]; simp
      · exfalso
        have := safe_pair (town_safe a9 a4) a2 b2 a5 b5 (by rw [← a6]; exact c1) (by rw [← b6]; exact c2)
        rw [hc] at this
        cases this
theorem beq_ba (a b : ByteArray) : (ByteArray.toList a == ByteArray.toList b) = decide (a = b) := by
  rw [ByteArray.toList_eq, ByteArray.toList_eq]
  by_cases h : a = b
  · subst h; simp
  · have : a.data ≠ b.data := fun e => h (by cases a; cases b; simp only at e; subst e; rfl)
    simp [h, this]
theorem cnt3 {t : Town} {s : Int} : ∀ (l : List Report), (∀ x ∈ l, inR x.light 0 2 = true) → cnt (fun x => x.light == 0) l + cnt (fun x => x.light == 1) l + cnt (fun x => x.light == 2) l = (l.length : Int)
  | [], _ => rfl
  | x :: l, h => by
    have ih := cnt3 (t := t) (s := s) l fun y hy => h y (List.mem_cons_of_mem _ hy)
    have hx := h x (List.mem_cons_self ..)
    unfold inR at hx
    simp only [Bool.and_eq_true, decide_eq_true_eq] at hx
    unfold cnt at ih ⊢
    have : x.light = 0 ∨ x.light = 1 ∨ x.light = 2 := by omega
    rcases this with c | c | c <;> simp [c] at ih ⊢ <;> omega
theorem verdicts (a b : Report) : (decide (vd a b = ⟨[102, 105, 114, 115, 116].toArray⟩) == decide (vd b a = ⟨[115, 101, 99, 111, 110, 100].toArray⟩)) = true ∧ (decide (vd a b = ⟨[98, 111, 116, 104].toArray⟩) == decide (vd b a = ⟨[98, 111, 116, 104].toArray⟩)) = true ∧ (decide (vd a b = ⟨[].toArray⟩) == decide (vd b a = ⟨[].toArray⟩)) = true := by
  unfold vd
  generalize inR a.light 0 2 = A
  generalize inR b.light 0 2 = B
  by_cases h1 : a.second = b.second
  · cases A <;> cases B <;> by_cases h4 : a.light = 0 <;> by_cases h5 : b.light = 0 <;> simp [h1, h4, h5]
  · have h1' : ¬ b.second = a.second := fun e => h1 e.symm
    simp [h1, h1']
end Go.Sh
