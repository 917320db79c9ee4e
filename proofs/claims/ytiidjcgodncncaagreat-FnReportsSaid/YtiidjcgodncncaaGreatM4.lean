/- What reports say of a valid town. -/
import Derived.Test.YtiidjcgodncncaaGreatM3
set_option linter.all false
namespace Go.Sh
open Go.Fx
theorem goS_pair {z : List (Path × Int)} : ∀ (r : List (Path × Int)) (k : Nat), goS z k r = true → ∀ (j : Nat) (y : Path × Int), r[j]? = some y → inR y.2 0 2 = true ∧ (z.take (k + j)).all (clear2 y) = true
  | [], k, _, j, y, h => by simp at h
  | q :: r, k, hg, j, y, h => by
    simp only [goS, Bool.and_eq_true] at hg
    cases j with
    | zero => simp at h; subst h; exact hg.1
    | succ j =>
      have := goS_pair r (k + 1) hg.2 j y (by simpa using h)
      rwa [show k + 1 + j = k + (j + 1) by omega] at this
theorem cross4 : ∀ a b c d : Fin 4, crossI (2 * ((a : Nat) : Int)) (2 * ((b : Nat) : Int) + 1) (2 * ((c : Nat) : Int)) (2 * ((d : Nat) : Int) + 1) = crossI (2 * ((c : Nat) : Int)) (2 * ((d : Nat) : Int) + 1) (2 * ((a : Nat) : Int)) (2 * ((b : Nat) : Int) + 1) := by
  decide
theorem fin4 {n : Int} (h : 0 ≤ n ∧ n ≤ 3) : ∃ a : Fin 4, n = ((a : Nat) : Int) := ⟨⟨n.toNat, by omega⟩, by simp; omega⟩
theorem isPath_r {p : Path} (h : isPath p = true) : (0 ≤ p.src ∧ p.src ≤ 3) ∧ (0 ≤ p.dst ∧ p.dst ≤ 3) := by
  unfold isPath inR at h
  simp only [Bool.and_eq_true, decide_eq_true_eq] at h
  exact ⟨h.1.1.2, h.1.2⟩
theorem conf_self (a : Path) : conflict a a = false := by
  unfold conflict
  split
  · rfl
  · split
    · rfl
    · rename_i h
      have h2 : ¬ a.kind = 2 := fun e => h ⟨e, e⟩
      simp [h2]
theorem conf_comm (a b : Path) : conflict a b = conflict b a := by
  cases ha : isPath a with
  | false => unfold conflict; simp [ha]
  | true =>
  cases hb : isPath b with
  | false => unfold conflict; simp [hb]
  | true =>
    obtain ⟨a1, a2⟩ := isPath_r ha
    obtain ⟨b1, b2⟩ := isPath_r hb
    obtain ⟨x, hx⟩ := fin4 a1
    obtain ⟨y, hy⟩ := fin4 a2
    obtain ⟨z, hz⟩ := fin4 b1
    obtain ⟨u, hu⟩ := fin4 b2
    have := cross4 x y z u
    unfold conflict
    simp only [ha, hb, Bool.true_eq_false, or_self, if_false]
    by_cases c1 : a.kind = 2 <;> by_cases c2 : b.kind = 2 <;> simp only [c1, c2, and_self, and_true, and_false, true_and, false_and, if_true, if_false]
    by_cases d1 : a.src = b.src
    · rw [if_pos d1, if_pos d1.symm]
    · rw [if_neg d1, if_neg (show ¬ b.src = a.src from fun e => d1 e.symm)]
      by_cases d2 : a.dst = b.dst
      · rw [if_pos d2, if_pos d2.symm]
      · rw [if_neg d2, if_neg (show ¬ b.dst = a.dst from fun e => d2 e.symm), hx, hy, hz, hu]
        exact this
theorem safe_pair {l : List Path} {v : List Int} (h : isSafe l v = true) {i j : Nat} {p q : Path} {x y : Int} (h1 : l[i]? = some p) (h2 : l[j]? = some q) (h3 : v[i]? = some x) (h4 : v[j]? = some y) (hx : x ≠ 0) (hy : y ≠ 0) : conflict p q = false := by
  unfold isSafe at h
  simp only [Bool.and_eq_true, decide_eq_true_eq] at h
  have hz : ∀ {i : Nat} {p : Path} {x : Int}, l[i]? = some p → v[i]? = some x → (l.zip v)[i]? = some (p, x) := fun h1 h3 => by rw [List.getElem?_zip_eq_some]; exact ⟨h1, h3⟩
  have key : ∀ {i j : Nat} {p q : Path} {x y : Int}, l[i]? = some p → l[j]? = some q → v[i]? = some x → v[j]? = some y → x ≠ 0 → y ≠ 0 → i < j → conflict q p = false := fun {i j p q x y} h1 h2 h3 h4 hx hy hij => by
    have h5 := (goS_pair _ 0 h.2 j (q, y) (hz h2 h4)).2
    have hm : (p, x) ∈ (l.zip v).take (0 + j) := by
      rw [Nat.zero_add, List.mem_iff_getElem?]
      exact ⟨i, by rw [List.getElem?_take, if_pos hij]; exact hz h1 h3⟩
    have := List.all_eq_true.1 h5 _ hm
    unfold clear2 at this
    simpa [hx, hy] using this
  rcases Nat.lt_trichotomy i j with c | c | c
  · rw [conf_comm]; exact key h1 h2 h3 h4 hx hy c
  · subst c
    rw [h1] at h2
    cases h2
    exact conf_self p
  · exact key h2 h1 h4 h3 hy hx c
theorem goU_safe {p : List Path} : ∀ {l : List Note}, (∀ x ∈ l, 0 ≤ x.second) → goU p l = -1 → ∀ x ∈ l, isSafe p x.lights = true
  | [], _, _, x, hx => by cases hx
  | y :: l, h0, h, x, hx => by
    rw [goU] at h
    split at h
    · rename_i hy
      rcases List.mem_cons.1 hx with rfl | hx
      · exact hy
      · exact goU_safe (fun z hz => h0 z (List.mem_cons_of_mem _ hz)) h x hx
    · have := h0 y (List.mem_cons_self ..)
      omega
theorem town_safe {t : Town} (h : isTown t = true) {e : Note} (he : e ∈ t.record) : isSafe t.paths e.lights = true := by
  have h' := h
  simp only [isTown, Bool.and_eq_true, decide_eq_true_eq] at h'
  obtain ⟨⟨⟨⟨⟨⟨⟨⟨⟨⟨h1, h2⟩, h3⟩, h4⟩, h5⟩, h6⟩, h7⟩, h8⟩, h9⟩, h10⟩, h11⟩ := h'
  unfold firstUnsafe at h7
  rw [if_pos h5] at h7
  exact goU_safe (fun x hx => (isRecord_len h5 x hx).2.1) h7 e he
theorem goAt_sec {s : Int} : ∀ (l : List Note) (k : Nat) (a : Int) (i : Nat) (x : Note), goAt s l k a = ((k + i : Nat) : Int) → l[i]? = some x → a < k → x.second ≤ s
  | [], k, a, i, x, h, hx, _ => by simp at hx
  | y :: r, k, a, i, x, h, hx, ha => by
    rw [goAt] at h
    cases i with
    | zero =>
      simp at hx
      subst hx
      by_cases c : y.second ≤ s
      · exact c
      · rw [if_neg c] at h
        rcases goAt_lt (s := s) r (k + 1) a with h2 | ⟨j, _, h2⟩
        · rw [h2] at h; omega
        · rw [h2] at h; omega
    | succ i =>
      refine goAt_sec r (k + 1) _ i x (by rw [h]; congr 1; omega) (by simpa using hx) ?_
      split <;> omega
theorem goR_sorted {n : Nat} : ∀ {l : List Note} {b : Int} {pv : Option Int}, goR n b pv l = true → (∀ p, pv = some p → ∀ x ∈ l, p ≤ x.second) ∧ ∀ (i j : Nat) (x y : Note), i ≤ j → l[i]? = some x → l[j]? = some y → x.second ≤ y.second
  | [], _, _, _ => ⟨fun _ _ x hx => (by cases hx), fun i j x y _ hx _ => (by simp at hx)⟩
  | z :: l, b, pv, h => by
    simp only [goR, Bool.and_eq_true] at h
    obtain ⟨i1, i2⟩ := goR_sorted h.2
    have hz := i1 _ rfl
    refine ⟨fun p hp x hx => ?_, fun i j x y hij hx hy => ?_⟩
    · have hl := h.1.2
      rw [hp] at hl
      simp only [later, decide_eq_true_eq] at hl
      rcases List.mem_cons.1 hx with rfl | hx
      · omega
      · have := hz x hx; omega
    · cases i with
      | zero =>
        simp at hx
        subst hx
        cases j with
        | zero => simp at hy; subst hy; exact Int.le_refl _
        | succ j => exact hz y (mem_at (by simpa using hy))
      | succ i =>
        cases j with
        | zero => omega
        | succ j => exact i2 i j x y (by omega) (by simpa using hx) (by simpa using hy)
theorem report_of {t : Town} {p s : Int} (h : (report t p s).2 = true) : isTown t = true ∧ (∃ (m : Nat) (q : Path), findPath t.paths p = (m : Int) ∧ t.paths[m]? = some q ∧ pathAt t.paths p = q ∧ ∃ (i : Nat) (e : Note) (x : Int), e ∈ t.record ∧ t.record[i]? = some e ∧ entry t.record s = some e ∧ entryAt t.record s = (i : Int) ∧ e.second ≤ s ∧ e.lights[m]? = some x ∧ 0 ≤ x ∧ x ≤ 2 ∧ s ≤ t.now ∧
    (report t p s).1 = ⟨p, s, x, greenSince t.record m s, goO q (t.paths.zip e.lights) 0⟩) := by
  unfold report at h ⊢
  split at h
  · cases h
  · rename_i hc
    have hn : ¬ isTown t = false ∧ ¬ findPath t.paths p < 0 ∧ ¬ t.now < s := ⟨fun e => hc (.inl e), fun e => hc (.inr (.inl e)), fun e => hc (.inr (.inr e))⟩
    have ht : isTown t = true := by simpa using hn.1
    refine ⟨ht, ?_⟩
    rw [if_neg hc]
    rcases entry_cases t.record s with ⟨e1, _⟩ | ⟨i, e, e1, e2, e3, e4⟩
    · rw [e1] at h; cases h
    · obtain ⟨m, q, q1, q2, _⟩ := findPath_lt hn.2.1
      have hq : pathAt t.paths p = q := by unfold pathAt; rw [q2, Int.toNat_natCast, q1]; rfl
      have he := mem_at e1
      have hs := town_safe ht he
      have hlen := (town_len ht he).1
      have hm : m < t.paths.length := (List.getElem?_eq_some_iff.1 q1).1
      have hx : e.lights[m]? = some e.lights[m] := List.getElem?_eq_getElem (by omega)
      have hz : (t.paths.zip e.lights)[m]? = some (q, e.lights[m]) := by rw [List.getElem?_zip_eq_some]; exact ⟨q1, hx⟩
      have hs2 := hs
      unfold isSafe at hs2
      simp only [Bool.and_eq_true, decide_eq_true_eq] at hs2
      have hr := (goS_pair _ 0 hs2.2 m _ hz).1
      unfold inR at hr
      simp only [Bool.and_eq_true, decide_eq_true_eq] at hr
      have hsec : e.second ≤ s := by
        unfold entryAt at e2
        rw [if_pos e4] at e2
        exact goAt_sec t.record 0 (-1) i e (by rw [e2, Nat.zero_add]) e1 (by omega)
      refine ⟨m, q, q2, q1, hq, i, e, e.lights[m], he, e1, e3, e2, hsec, hx, hr.1, hr.2, by omega, ?_⟩
      rw [e3]
      simp only
      rw [q2, hq]
      have : lightOf e (m : Int) = e.lights[m] := by
        unfold lightOf
        rw [if_pos (by omega), Int.toNat_natCast, hx]
      rw [this]
theorem goO_zero {a : Path} : ∀ (z : List (Path × Int)), (∀ x ∈ z, x.2 ≠ 0 → conflict a x.1 = false) → goO a z 0 = 0
  | [], _ => rfl
  | x :: z, h => by
    rw [goO, if_neg]
    · exact goO_zero z fun y hy => h y (List.mem_cons_of_mem _ hy)
    · rintro ⟨_, h1, h2⟩
      rw [h x (List.mem_cons_self ..) h1] at h2
      cases h2
theorem report_other {t : Town} {p s : Int} (h : (report t p s).2 = true) (hl : (report t p s).1.light ≠ 0) : (report t p s).1.other = 0 := by
  obtain ⟨ht, m, q, q2, q1, hq, i, e, x, he, e1, e3, e2, hsec, hx, h0, h2, hn, hr⟩ := report_of h
  rw [hr] at hl ⊢
  refine goO_zero _ fun y hy hy0 => ?_
  obtain ⟨j, hj⟩ := List.mem_iff_getElem?.1 hy
  obtain ⟨j1, j2⟩ := zip_at hj
  exact safe_pair (town_safe ht he) q1 j1 hx j2 hl hy0
theorem report_since {t : Town} {p s : Int} (h : (report t p s).2 = true) : decide ((report t p s).1.since ≥ 0) = ((report t p s).1.light == 1) := by
  obtain ⟨ht, m, q, q2, q1, hq, i, e, x, he, e1, e3, e2, hsec, hx, h0, h2, hn, hr⟩ := report_of h
  rw [hr]
  have hls : lightShown t.record m s = x := by
    unfold lightShown lightOf
    rw [e3]
    simp only
    rw [if_pos (by omega), Int.toNat_natCast, hx]
  have hp := town_parts ht
  have hrec := hp.2.2.2.2.1
  show decide (greenSince t.record m s ≥ 0) = (x == 1)
  unfold greenSince
  rw [hls]
  by_cases c : x = 1
  · rw [if_pos c, e2, Int.toNat_natCast]
    have hb := back_le t.record (m : Int) i
    have hi : i < t.record.length := (List.getElem?_eq_some_iff.1 e1).1
    have hbe : t.record[back t.record m i]? = some t.record[back t.record m i] := List.getElem?_eq_getElem (by omega)
    have hso : t.record[back t.record m i].second ≤ e.second := by
      unfold isRecord at hrec
      rw [Bool.and_eq_true] at hrec
      exact (goR_sorted hrec.2).2 _ _ _ _ hb hbe e1
    have hge := (isRecord_len hrec _ (mem_at hbe)).2.1
    have hnow := hp.2.2.2.2.2.2.2.1
    unfold secAt
    rw [hbe]
    simp only
    rw [W_id (by omega) (by omega), c]
    simp; omega
  · rw [if_neg c]
    simp [c]
end Go.Sh
