/- Top: what a controller shows leaves time to clear. -/
import Derived.Test.YtkbhcieejpbjpaaGreatU2
set_option linter.all false
namespace Go.Sh
open Go.Fx
structure SafeH (l : List Path) (h : List (List Int)) : Prop where
  a : arePaths l = true
  s : ∀ v ∈ h, isSafe l v = true
  g : ∀ (t s' i j : Nat) (p q : Path) (v u v' : List Int), s' ≤ t → h[t + 1]? = some v → h[t]? = some u → h[s']? = some v' → l[i]? = some p → l[j]? = some q → v[i]? = some 1 → u[i]? ≠ some 1 → v'[j]? = some 1 → conflict p q = true → clearOf q < (t : Int) + 1 - (s' : Int)
theorem safeH_of {l : List Path} (h : arePaths l = true) (f : Nat → Path → Int) (n : Nat) (hs : ∀ t, isSafe l (l.map (f t)) = true)
    (hg : ∀ (t s' : Nat) (p q : Path), p ∈ l → q ∈ l → s' ≤ t → t + 1 < n → f (t + 1) p = 1 → f t p ≠ 1 → f s' q = 1 → conflict p q = true → clearOf q < (t : Int) + 1 - (s' : Int)) : SafeH l ((List.range n).map fun t => l.map (f t)) where
  a := h
  s v hv := by
    obtain ⟨t, _, rfl⟩ := List.mem_map.1 hv
    exact hs t
  g t s' i j p q v u v' h1 h2 h3 h4 h5 h6 h7 h8 h9 h10 := by
    have hat : ∀ {k : Nat} {z : List Int}, ((List.range n).map fun t => l.map (f t))[k]? = some z → k < n ∧ z = l.map (f k) := fun {k z} hz => by
      rw [List.getElem?_map] at hz
      rcases Nat.lt_or_ge k n with c | c
      · rw [List.getElem?_range c] at hz
        exact ⟨c, (Option.some.inj hz).symm⟩
      · rw [List.getElem?_eq_none (by simpa using c)] at hz
        cases hz
    obtain ⟨a1, rfl⟩ := hat h2
    obtain ⟨a2, rfl⟩ := hat h3
    obtain ⟨a3, rfl⟩ := hat h4
    rw [List.getElem?_map, h5] at h7 h8
    rw [List.getElem?_map, h6] at h9
    simp only [Option.map_some, Option.some.injEq, ne_eq] at h7 h8 h9
    exact hg t s' p q (List.mem_of_getElem? h5) (List.mem_of_getElem? h6) h1 a1 h7 h8 h9 h10
def Goes (l : List Path) (x y : Control) : Prop := y = x ∨ y = tick l x ∨ ∃ st, y = (askStage l x st).1
def Late (l : List Path) (x : Control) (n : Int) (d : Int) : Prop :=
  (x.next = [] → n ∈ x.stage ∨ x.since + 1 ≤ d) ∧ (x.next ≠ [] → (n ∈ x.stage ∧ n ∈ x.next) ∨ (n ∈ x.stage ∧ n ∉ x.next ∧ clearBetween l x.stage x.next - x.left + 1 ≤ d) ∨ (n ∉ x.stage ∧ 7 ≤ d))
theorem goes_control {l : List Path} {x y : Control} (h : isControl l x = true) (hg : Goes l x y) : isControl l y = true := by
  rcases hg with rfl | rfl | ⟨st, rfl⟩
  · exact h
  · exact tick_control h
  · exact askStage_control h
theorem tick_cases {l : List Path} {x : Control} (h : isControl l x = true) : (x.next = [] ∧ ∃ k, tick l x = { x with since := k } ∧ k ≤ x.since + 1 ∧ x.since ≤ k) ∨ (x.next ≠ [] ∧ 1 < x.left ∧ tick l x = { x with left := x.left - 1 }) ∨ (x.next ≠ [] ∧ x.left = 1 ∧ tick l x = ⟨x.next, 0, [], 0⟩) := by
  have hcl := control_left h
  unfold tick
  rw [if_pos h]
  by_cases hn : x.next = []
  · refine .inl ⟨hn, _, by rw [hn]; rfl, ?_, ?_⟩ <;> split <;> omega
  · have hne : x.next.isEmpty = false := by cases hx : x.next with | nil => exact absurd hx hn | cons _ _ => rfl
    have := hcl.2 hne
    rw [hne, if_neg (by simp)]
    by_cases c : x.left > 1
    · exact .inr (.inl ⟨hn, c, if_pos c⟩)
    · exact .inr (.inr ⟨hn, by omega, if_neg c⟩)
theorem ask_cases {l : List Path} {x : Control} (h : isControl l x = true) (st : List Int) : (askStage l x st).1 = x ∨ (x.next = [] ∧ 5 ≤ x.since ∧ together l st = true ∧ st ≠ [] ∧ ((clearBetween l x.stage st = 0 ∧ (askStage l x st).1 = ⟨st, 0, [], 0⟩) ∨ (askStage l x st).1 = ⟨x.stage, x.since, st, clearBetween l x.stage st⟩)) := by
  unfold askStage
  split
  · rename_i c
    simp only [Bool.and_eq_true, Bool.not_eq_true'] at c
    obtain ⟨c1, c2, c3, _⟩ := c
    unfold canEnd at c1
    simp only [Bool.and_eq_true, decide_eq_true_eq] at c1
    have := leastGreen_r l x.stage
    refine .inr ⟨List.isEmpty_iff.1 c1.2.1, by omega, c3, fun e => (by rw [e] at c2; cases c2), ?_⟩
    by_cases h0 : clearBetween l x.stage st = 0
    · exact .inl ⟨h0, if_pos h0⟩
    · exact .inr (if_neg h0)
  · exact .inl rfl
theorem late_go {l : List Path} {x y : Control} (h : isControl l x = true) (hg : Goes l x y) {n d : Int} (hd : Late l x n d ∨ (d = 0 ∧ lightAt x n = 1)) (h0 : 0 ≤ d) : Late l y n (d + 1) := by
  have hcl := control_left h
  have same : Late l x n (d + 1) := by
    rcases hd with ⟨d1, d2⟩ | ⟨d1, d2⟩
    · refine ⟨fun e => (d1 e).imp id fun h => by omega, fun e => ?_⟩
      rcases d2 e with h | ⟨h1, h2, h3⟩ | ⟨h1, h2⟩
      · exact .inl h
      · exact .inr (.inl ⟨h1, h2, by omega⟩)
      · exact .inr (.inr ⟨h1, by omega⟩)
    · obtain ⟨e1, e2⟩ := light_is d2
      refine ⟨fun _ => .inl e1, fun e => .inl ⟨e1, e2.resolve_left e⟩⟩
  have fresh : ∀ st, Late l ⟨st, 0, [], 0⟩ n (d + 1) := fun st => ⟨fun _ => .inr (by show (0 : Int) + 1 ≤ d + 1; omega), fun e => absurd rfl e⟩
  rcases hg with rfl | rfl | ⟨st, rfl⟩
  · exact same
  · rcases tick_cases h with ⟨e1, k, e2, e3, e4⟩ | ⟨e1, e2, e3⟩ | ⟨e1, e2, e3⟩
    · rw [e2]
      refine ⟨fun _ => ?_, fun e => absurd e1 e⟩
      rcases hd with ⟨d1, _⟩ | ⟨_, d2⟩
      · rcases d1 e1 with h | h
        · exact .inl h
        · exact .inr (by show k + 1 ≤ d + 1; omega)
      · exact .inl (light_is d2).1
    · rw [e3]
      refine ⟨fun e => absurd e e1, fun _ => ?_⟩
      rcases hd with ⟨_, d2⟩ | ⟨_, d2⟩
      · rcases d2 e1 with h | ⟨h1, h2, h3⟩ | ⟨h1, h2⟩
        · exact .inl h
        · exact .inr (.inl ⟨h1, h2, by show clearBetween l x.stage x.next - (x.left - 1) + 1 ≤ d + 1; omega⟩)
        · exact .inr (.inr ⟨h1, by omega⟩)
      · obtain ⟨g1, g2⟩ := light_is d2
        exact .inl ⟨g1, g2.resolve_left e1⟩
    · rw [e3]; exact fresh _
  · rcases ask_cases h st with e | ⟨e1, e2, e3, e4, e5 | e5⟩
    · rw [e]; exact same
    · rw [e5.2]; exact fresh _
    · rw [e5]
      refine ⟨fun e => absurd e e4, fun _ => ?_⟩
      by_cases c : n ∈ x.stage
      · by_cases c2 : n ∈ st
        · exact .inl ⟨c, c2⟩
        · exact .inr (.inl ⟨c, c2, by show clearBetween l x.stage st - clearBetween l x.stage st + 1 ≤ d + 1; omega⟩)
      · refine .inr (.inr ⟨c, ?_⟩)
        rcases hd with ⟨d1, _⟩ | ⟨_, d2⟩
        · rcases d1 e1 with h | h
          · exact absurd h c
          · omega
        · exact absurd (light_is d2).1 c
theorem clearOf_two {p : Path} (h : isPath p = true) : 2 ≤ clearOf p := by
  unfold clearOf
  rw [if_pos h]
  repeat' split <;> try omega
theorem conf_path {a b : Path} (h : conflict a b = true) : isPath a = true ∧ isPath b = true := by
  unfold conflict at h
  split at h
  · cases h
  · rename_i c
    constructor
    · cases e : isPath a with
      | true => rfl
      | false => exact absurd (.inl e) c
    · cases e : isPath b with
      | true => rfl
      | false => exact absurd (.inr e) c
theorem pair_no {l : List Path} {a : List Int} (h : together l a = true) {x y : Int} (hx : x ∈ a) (hc : conflict (pathAt l x) (pathAt l y) = true) : y ∉ a := fun hy => by
  rw [together_pair h hx hy] at hc
  cases hc
theorem gap {l : List Path} {x y : Control} (h : isControl l x = true) (hg : Goes l x y) {a b d : Int} (hd : Late l x b d ∨ (d = 0 ∧ lightAt x b = 1)) (h0 : 0 ≤ d) (hx : lightAt x a ≠ 1) (hy : lightAt y a = 1)
    (hc : conflict (pathAt l a) (pathAt l b) = true) : clearOf (pathAt l b) < d + 1 := by
  have hr := clearOf_r (pathAt l b)
  have h2 := clearOf_two (conf_path hc).2
  have hcp := control_parts h
  rcases hg with rfl | rfl | ⟨st, rfl⟩
  · exact absurd hy hx
  · rcases tick_cases h with ⟨e1, k, e2, e3, e4⟩ | ⟨e1, e2, e3⟩ | ⟨e1, e2, e3⟩
    · rw [e2] at hy
      exact absurd hy hx
    · rw [e3] at hy
      exact absurd hy hx
    · rw [e3] at hy
      have ha : a ∈ x.next := (light_is hy).1
      have hb : b ∉ x.next := pair_no hcp.2.2 ha hc
      rcases hd with ⟨_, d2⟩ | ⟨_, d2⟩
      · rcases d2 e1 with g | ⟨g1, g2, g3⟩ | ⟨g1, g2⟩
        · exact absurd g.2 hb
        · have ha2 : a ∉ x.stage := fun hs => hx (light_stays hs ha)
          have := clear_ge hcp.2.1 hcp.2.2 (closes_mem.2 ⟨g1, g2⟩) (closes_mem.2 ⟨ha, ha2⟩) (by rw [conf_comm]; exact hc)
          omega
        · omega
      · exact absurd ((light_is d2).2.resolve_left e1) hb
  · rcases ask_cases h st with e | ⟨e1, e2, e3, e4, e5 | e5⟩
    · rw [e] at hy; exact absurd hy hx
    · rw [e5.2] at hy
      have ha : a ∈ st := (light_is hy).1
      have hb : b ∉ st := pair_no e3 ha hc
      have ha2 : a ∉ x.stage := fun hs => hx (light_green e1 hs)
      have hbs : b ∉ x.stage := fun hs => by
        have := clear_ge hcp.2.1 e3 (closes_mem.2 ⟨hs, hb⟩) (closes_mem.2 ⟨ha, ha2⟩) (by rw [conf_comm]; exact hc)
        omega
      rcases hd with ⟨d1, _⟩ | ⟨_, d2⟩
      · rcases d1 e1 with g | g
        · exact absurd g hbs
        · omega
      · exact absurd (light_is d2).1 hbs
    · rw [e5] at hy
      exact absurd (light_green e1 (light_is hy).1) hx
theorem goes_safe {l : List Path} (x : Nat → Control) (h : isControl l (x 0) = true) (hg : ∀ t, Goes l (x t) (x (t + 1))) (n : Nat) : SafeH l ((List.range n).map fun t => lightsOf l (x t)) := by
  have hc : ∀ t, isControl l (x t) = true := fun t => by
    induction t with
    | zero => exact h
    | succ t ih => exact goes_control ih (hg t)
  have hare := control_are h
  have hl : ∀ (k t : Nat) (b : Int), lightAt (x t) b = 1 → Late l (x (t + k)) b k ∨ ((k : Int) = 0 ∧ lightAt (x (t + k)) b = 1) := fun k t b hb => by
    induction k with
    | zero => exact .inr ⟨rfl, hb⟩
    | succ k ih =>
      have := late_go (hc (t + k)) (hg (t + k)) ih (by omega)
      exact .inl (by rw [show ((k + 1 : Nat) : Int) = (k : Int) + 1 by omega]; exact this)
  have e : ((List.range n).map fun t => lightsOf l (x t)) = (List.range n).map fun t => l.map fun p => lightAt (x t) p.id := by
    congr 1
    funext t
    exact lightsOf_eq (hc t)
  rw [e]
  refine safeH_of hare (fun t p => lightAt (x t) p.id) n (fun t => by rw [← lightsOf_eq (hc t)]; exact lightsOf_safe (hc t)) fun t s' p q hp hq h1 _ h2 h3 h4 h5 => ?_
  have h6 := hl (t - s') s' q.id h4
  rw [show s' + (t - s') = t by omega] at h6
  have h7 := gap (hc t) (hg t) h6 (by omega) h3 h2 (by rw [own_at hare hp, own_at hare hq]; exact h5)
  rw [own_at hare hq] at h7
  omega
def askStep (l : List Path) (s : Control × List Want) : Control × List Want := if isControl l s.1 && areWants l s.2 then (asked l s.1 s.2, waited (asked l s.1 s.2) s.2) else s
def askN (l : List Path) : Nat → Control × List Want → Control × List Want
  | 0, s => s
  | n + 1, s => askStep l (askN l n s)
def askH (l : List Path) (s : Control × List Want) (n : Nat) : List (List Int) := (List.range n).map fun t => lightsOf l (askN l t s).1
theorem askH_safe {l : List Path} {s : Control × List Want} (h : isControl l s.1 = true) (n : Nat) : SafeH l (askH l s n) := by
  refine goes_safe (fun t => (askN l t s).1) h (fun t => ?_) n
  show Goes l (askN l t s).1 (askStep l (askN l t s)).1
  unfold askStep
  split
  · show Goes l _ (asked l (askN l t s).1 (askN l t s).2)
    unfold asked
    split
    · exact .inr (.inr ⟨_, rfl⟩)
    · exact .inr (.inl rfl)
  · exact .inl rfl
end Go.Sh
