/- Top: nobody waits beyond the bound. -/
import Derived.Test.YtkbhcieejpbjpaaGreatU1
set_option linter.all false
namespace Go.Sh
open Go.Fx
theorem most_ge {n c : Int} : n ≤ most n c ∧ c ≤ most n c := by unfold most; split <;> omega
theorem foldl_ub {α : Type} {f : Int → α → Int} {M : Int} : ∀ (l : List α) (n : Int), (∀ n, ∀ x ∈ l, n ≤ M → f n x ≤ M) → n ≤ M → l.foldl f n ≤ M
  | [], n, _, h => h
  | x :: l, n, hf, h => foldl_ub l _ (fun n y hy => hf n y (List.mem_cons_of_mem _ hy)) (hf n x (List.mem_cons_self ..) h)
theorem foldl_lb {α : Type} {f : Int → α → Int} (hf : ∀ n x, n ≤ f n x) : ∀ (l : List α) (n : Int), n ≤ l.foldl f n
  | [], n => Int.le_refl _
  | x :: l, n => Int.le_trans (hf n x) (foldl_lb hf l _)
theorem foldl_hit {α : Type} {f : Int → α → Int} (hf : ∀ n x, n ≤ f n x) {c : Int} {y : α} (hy : ∀ n, c ≤ f n y) : ∀ (l : List α) (n : Int), y ∈ l → c ≤ l.foldl f n
  | x :: l, n, h => by
    rcases List.mem_cons.1 h with rfl | h
    · exact Int.le_trans (hy n) (foldl_lb hf l _)
    · exact foldl_hit hf hy l _ h
theorem longest_ge {l : List Path} (h : arePaths l = true) {p : Path} (hp : p ∈ l) : clearOf p ≤ longestClear l := by
  unfold longestClear
  rw [if_pos h]
  exact foldl_hit (f := fun n p => if n < clearOf p then clearOf p else n) (fun n x => by split <;> omega) (fun n => by split <;> omega) l 0 hp
theorem longest_r (l : List Path) : 0 ≤ longestClear l ∧ longestClear l ≤ 5 := by
  unfold longestClear
  split
  · exact foldl_r _ (fun n x h => by have := clearOf_r x; split <;> omega) l 0 (by omega)
  · omega
theorem pathAt_mem {l : List Path} {n : Int} (h : ¬ findPath l n < 0) : pathAt l n ∈ l := by
  obtain ⟨i, x, h1, h2, _⟩ := findPath_lt h
  unfold pathAt
  rw [h2, Int.toNat_natCast, h1]
  exact List.mem_of_getElem? h1
theorem clear_long (l : List Path) (a b : List Int) : clearBetween l a b ≤ longestClear l := by
  have h0 := longest_r l
  unfold clearBetween
  split
  · rename_i h
    have hare := together_are h.1
    refine foldl_ub _ 0 (fun n x hx hn => foldl_ub _ n (fun m y _ hm => ?_) hn) (by omega)
    unfold stepC
    split
    · have := longest_ge hare (pathAt_mem (together_find h.1 x (closes_sub hx)))
      unfold most
      split <;> omega
    · exact hm
  · omega
theorem clear_ge {l : List Path} {a b : List Int} (ha : together l a = true) (hb : together l b = true) {x y : Int} (hx : x ∈ closes a b) (hy : y ∈ closes b a) (hc : conflict (pathAt l x) (pathAt l y) = true) : clearOf (pathAt l x) ≤ clearBetween l a b := by
  unfold clearBetween
  rw [if_pos ⟨ha, hb⟩]
  have hs : ∀ x n y, n ≤ stepC l x n y := fun x n y => by unfold stepC; split; exact most_ge.1; exact Int.le_refl _
  refine foldl_hit (y := x) (fun n z => foldl_lb (hs z) _ n) (fun n => ?_) _ 0 hx
  refine foldl_hit (y := y) (hs x) (fun m => ?_) _ n hy
  unfold stepC
  rw [if_pos hc]
  exact most_ge.2
theorem closes_mem {a b : List Int} {x : Int} : x ∈ closes a b ↔ x ∈ a ∧ x ∉ b := by
  unfold closes
  rw [List.mem_filter]
  constructor
  · rintro ⟨h1, h2⟩
    exact ⟨h1, fun h => by rw [has_mem.2 h] at h2; cases h2⟩
  · rintro ⟨h1, h2⟩
    refine ⟨h1, ?_⟩
    cases h : has b x with
    | false => rfl
    | true => exact absurd (has_mem.1 h) h2
theorem goW_asc {l : List Path} : ∀ {w : List Want} {pv : Option Int}, goW l pv w = true → w.Pairwise fun x y => x.path < y.path
  | [], _, _ => .nil
  | x :: w, pv, h => by
    simp only [goW, Bool.and_eq_true] at h
    exact List.pairwise_cons.2 ⟨fun y hy => goW_sorted (p := 0) h.2 y hy x.path rfl, goW_asc h.2⟩
theorem wants_go {l : List Path} {w : List Want} (h : areWants l w = true) : arePaths l = true ∧ goW l none w = true := by
  unfold areWants at h
  simpa using h
theorem find_inj {l : List Path} {a b : Int} (ha : ¬ findPath l a < 0) (hb : ¬ findPath l b < 0) (h : findPath l a = findPath l b) : a = b := by
  obtain ⟨i, x, h1, h2, h3⟩ := findPath_lt ha
  obtain ⟨j, y, g1, g2, g3⟩ := findPath_lt hb
  have : i = j := by omega
  subst this
  rw [h1] at g1
  cases g1
  omega
theorem find_up {l : List Path} {n : Int} (h : ¬ findPath l n < 0) : (findPath l n).toNat < l.length := by
  obtain ⟨i, x, h1, h2, _⟩ := findPath_lt h
  rw [h2, Int.toNat_natCast]
  exact (List.getElem?_eq_some_iff.1 h1).1
theorem wants_le {l : List Path} {w : List Want} (h : areWants l w = true) : w.length ≤ l.length := by
  have hg := (wants_go h).2
  have hasc := goW_asc hg
  have := nodup_bound l.length (w.map fun x => (findPath l x.path).toNat) (List.pairwise_map.2 (hasc.imp_of_mem fun {x y} hx hy hlt e => by
    have h1 := (wants_mem h hx).1
    have h2 := (wants_mem h hy).1
    have := find_inj h1 h2 (by omega)
    omega)) (fun z hz => by
    obtain ⟨x, hx, rfl⟩ := List.mem_map.1 hz
    exact find_up (wants_mem h hx).1)
  simpa using this
def rank (w : List Want) (p : Want) : Nat := w.countP fun q => decide (q.path ≠ p.path ∧ p.wait ≤ q.wait)
def rem (l : List Path) (x : Control) : Int := if x.next = [] then (if x.since < 60 then 60 - x.since else 0) + longestClear l + 1 else x.left
structure WInv (l : List Path) (x : Control) (w : List Want) : Prop where
  b : ∀ p ∈ w, p.wait + rem l x + (rank w p : Int) * (61 + longestClear l) ≤ (l.length : Int) * (61 + longestClear l)
  z : x.next = [] → ∀ p ∈ w, p.path ∈ x.stage → p.wait = 0
  m : x.next ≠ [] → ∃ p ∈ w, p.path ∈ x.next ∧ p.path ∉ x.stage ∧ ∀ q ∈ w, q.wait ≤ p.wait
theorem rank_lt {w : List Want} {p : Want} (h : p ∈ w) : rank w p + 1 ≤ w.length := by
  unfold rank
  have h1 := List.length_eq_countP_add_countP (fun q : Want => decide (q.path ≠ p.path ∧ p.wait ≤ q.wait)) (l := w)
  have h2 : 0 < w.countP (fun a => decide ¬ (decide (a.path ≠ p.path ∧ p.wait ≤ a.wait)) = true) := by
    rw [List.countP_pos_iff]
    exact ⟨p, h, by simp⟩
  omega
theorem rem_r {l : List Path} {x : Control} (h : isControl l x = true) : 0 ≤ rem l x ∧ rem l x ≤ 61 + longestClear l := by
  have h0 := longest_r l
  have hs := control_left h
  unfold rem
  split
  · split <;> omega
  · rename_i hn
    have h2 : x.left ≤ clearBetween l x.stage x.next := by
      unfold isControl at h
      simp only [Bool.and_eq_true, if_neg hn] at h
      have := h.2
      unfold inR at this
      simp only [Bool.and_eq_true, decide_eq_true_eq] at this
      exact this.2
    have := clear_long l x.stage x.next
    have h3 := hs.2 (by cases hx : x.next with | nil => exact absurd hx hn | cons _ _ => rfl)
    omega
theorem mulD {a b D : Int} (h : a ≤ b) (hD : 0 ≤ D) : a * D ≤ b * D := Int.mul_le_mul_of_nonneg_right h hD
theorem WInv.wait_le {l : List Path} {x : Control} {w : List Want} (hi : WInv l x w) (hc : isControl l x = true) {p : Want} (hp : p ∈ w) : p.wait ≤ (l.length : Int) * (61 + longestClear l) := by
  have h1 := hi.b p hp
  have h2 := rem_r hc
  have h3 := longest_r l
  have : 0 ≤ (rank w p : Int) * (61 + longestClear l) := Int.mul_nonneg (by omega) (by omega)
  omega
theorem small {l : List Path} (h : arePaths l = true) : (l.length : Int) * (61 + longestClear l) ≤ 792 := by
  have h1 := are_len h
  have h2 := longest_r l
  have h3 := mulD (a := (l.length : Int)) (b := 12) (D := 61 + longestClear l) (by omega) (by omega)
  omega
theorem waited_mem {y : Control} {w : List Want} {p : Want} (h : p ∈ waited y w) : ∃ q ∈ w, lightAt y q.path ≠ 1 ∧ p = ⟨q.path, bump q.wait⟩ := by
  unfold waited at h
  obtain ⟨q, hq, h⟩ := List.mem_filterMap.1 h
  split at h
  · cases h
  · rename_i hl
    exact ⟨q, hq, hl, (Option.some.inj h).symm⟩
theorem waited_of {y : Control} {w : List Want} {q : Want} (hq : q ∈ w) (hl : lightAt y q.path ≠ 1) : (⟨q.path, bump q.wait⟩ : Want) ∈ waited y w := by
  unfold waited
  exact List.mem_filterMap.2 ⟨q, hq, by rw [if_neg hl]⟩
theorem cnt_waited (y : Control) (P P' : Want → Bool) (hP : ∀ q : Want, P' ⟨q.path, bump q.wait⟩ = true → P q = true) : ∀ w : List Want, (waited y w).countP P' ≤ w.countP P
  | [] => Nat.le_refl _
  | q :: w => by
    have ih := cnt_waited y P P' hP w
    unfold waited at ih ⊢
    rw [List.filterMap_cons, List.countP_cons]
    split
    · omega
    · rename_i z hz
      split at hz
      · cases hz
      · cases hz
        rw [List.countP_cons]
        have := hP q
        split
        · rename_i h
          rw [if_pos (this h)]; omega
        · omega
theorem cnt_waited_lt (y : Control) (P P' : Want → Bool) (hP : ∀ q : Want, P' ⟨q.path, bump q.wait⟩ = true → P q = true) {m : Want} (hm : lightAt y m.path = 1) (hPm : P m = true) : ∀ w : List Want, m ∈ w → (waited y w).countP P' + 1 ≤ w.countP P
  | q :: w, h => by
    rcases List.mem_cons.1 h with rfl | h
    · have ih := cnt_waited y P P' hP w
      unfold waited at ih ⊢
      rw [List.filterMap_cons, List.countP_cons, if_pos hPm, if_pos hm]
      simp only
      omega
    · have ih := cnt_waited_lt y P P' hP hm hPm w h
      unfold waited at ih ⊢
      rw [List.filterMap_cons, List.countP_cons]
      split
      · omega
      · rename_i z hz
        split at hz
        · cases hz
        · cases hz
          rw [List.countP_cons]
          have := hP q
          split
          · rename_i h
            rw [if_pos (this h)]; omega
          · omega
theorem bump_p {n : Int} (h : n < 100000) : bump n = n + 1 := if_pos h
theorem rank_waited {y : Control} {w : List Want} {q : Want} (hq : q.wait < 99999) : rank (waited y w) ⟨q.path, bump q.wait⟩ ≤ rank w q := by
  unfold rank
  refine cnt_waited y _ _ (fun z hz => ?_) w
  simp only [decide_eq_true_eq] at hz ⊢
  refine ⟨hz.1, ?_⟩
  have h2 := hz.2
  rw [bump_p (by omega)] at h2
  unfold bump at h2
  split at h2 <;> omega
theorem rank_waited_lt {y : Control} {w : List Want} {q m : Want} (hq : q.wait < 99999) (hm : m ∈ w) (hg : lightAt y m.path = 1) (hne : m.path ≠ q.path) (hle : q.wait ≤ m.wait) : rank (waited y w) ⟨q.path, bump q.wait⟩ + 1 ≤ rank w q := by
  unfold rank
  refine cnt_waited_lt y _ _ (fun z hz => ?_) hg (by simpa using ⟨hne, hle⟩) w hm
  simp only [decide_eq_true_eq] at hz ⊢
  refine ⟨hz.1, ?_⟩
  have h2 := hz.2
  rw [bump_p (by omega)] at h2
  unfold bump at h2
  split at h2 <;> omega
theorem light_green {y : Control} (h : y.next = []) {n : Int} (hn : n ∈ y.stage) : lightAt y n = 1 := by
  unfold lightAt
  rw [if_pos (has_mem.2 hn), h]
  simp
theorem light_stays {y : Control} {n : Int} (hn : n ∈ y.stage) (h2 : n ∈ y.next) : lightAt y n = 1 := by
  unfold lightAt
  rw [if_pos (has_mem.2 hn), has_mem.2 h2]
  simp
theorem light_is {y : Control} {n : Int} (h : lightAt y n = 1) : n ∈ y.stage ∧ (y.next = [] ∨ n ∈ y.next) := by
  refine ⟨lightAt_in (by omega), ?_⟩
  unfold lightAt at h
  split at h
  · split at h
    · omega
    · rename_i c
      by_cases e : y.next = []
      · exact .inl e
      · refine .inr (has_mem.1 ?_)
        cases hh : has y.next n with
        | true => rfl
        | false =>
          refine absurd ⟨?_, hh⟩ c
          cases hx : y.next with
          | nil => exact absurd hx e
          | cons _ _ => rfl
  · omega
theorem WInv.go {l : List Path} {x y : Control} {w : List Want} (hi : WInv l x w) (hl : arePaths l = true) (hc : isControl l x = true) (h1 : rem l y + 1 ≤ rem l x) (hz : y.next = [] → True) (hs : y.stage = x.stage)
    (hm : y.next ≠ [] → ∃ p ∈ w, p.path ∈ y.next ∧ p.path ∉ y.stage ∧ ∀ q ∈ w, q.wait ≤ p.wait) : WInv l y (waited y w) where
  b p hp := by
    obtain ⟨q, hq, _, rfl⟩ := waited_mem hp
    have h2 := hi.wait_le hc hq
    have h3 := small hl
    have h4 := hi.b q hq
    have h5 := rank_waited (y := y) (w := w) (q := q) (by omega)
    have h6 := mulD (a := (rank (waited y w) ⟨q.path, bump q.wait⟩ : Int)) (b := (rank w q : Int)) (D := 61 + longestClear l) (by omega) (by have := longest_r l; omega)
    have h7 : (⟨q.path, bump q.wait⟩ : Want).wait = q.wait + 1 := bump_p (by omega)
    omega
  z hn p hp hps := by
    obtain ⟨q, hq, hlt, rfl⟩ := waited_mem hp
    exact absurd (light_green hn hps) hlt
  m hn := by
    obtain ⟨p, hp, h2, h3, h4⟩ := hm hn
    refine ⟨⟨p.path, bump p.wait⟩, waited_of hp (fun e => h3 (light_is e).1), h2, h3, fun q hq => ?_⟩
    obtain ⟨z, hz, _, rfl⟩ := waited_mem hq
    have := h4 z hz
    show bump z.wait ≤ bump p.wait
    unfold bump
    split <;> split <;> omega
theorem WInv.turn {l : List Path} {x y : Control} {w : List Want} (hi : WInv l x w) (hl : arePaths l = true) (hc : isControl l x = true) (h1 : 1 ≤ rem l x) (hy : y.next = []) (hs : y.since = 0)
    {m : Want} (hm : m ∈ w) (hms : m.path ∈ y.stage) (hmax : ∀ q ∈ w, q.wait ≤ m.wait) : WInv l y (waited y w) where
  b p hp := by
    obtain ⟨q, hq, hlq, rfl⟩ := waited_mem hp
    have h2 := hi.wait_le hc hq
    have h3 := small hl
    have h4 := hi.b q hq
    have hg : lightAt y m.path = 1 := light_green hy hms
    have h5 := rank_waited_lt (y := y) (w := w) (q := q) (m := m) (by omega) hm hg (fun e => hlq (e ▸ hg)) (hmax q hq)
    have h6 := mulD (a := (rank (waited y w) ⟨q.path, bump q.wait⟩ : Int) + 1) (b := (rank w q : Int)) (D := 61 + longestClear l) (by omega) (by have := longest_r l; omega)
    rw [Int.add_mul, Int.one_mul] at h6
    have h7 : (⟨q.path, bump q.wait⟩ : Want).wait = q.wait + 1 := bump_p (by omega)
    have h8 : rem l y = 61 + longestClear l := by unfold rem; rw [if_pos hy, hs]; simp; omega
    omega
  z hn p hp hps := by
    obtain ⟨q, hq, hlt, rfl⟩ := waited_mem hp
    exact absurd (light_green hn hps) hlt
  m hn := absurd hy hn
theorem longer_some {s : List Int} {b : Option Want} {y z : Want} (h : longer s b y = some z) : (b = some z) ∨ (z = y ∧ y.path ∉ s) := by
  unfold longer at h
  split at h
  · exact .inl h
  · rename_i hn
    have hy : y.path ∉ s := fun hm => hn (has_mem.2 hm)
    split at h
    · exact .inr ⟨(Option.some.inj h).symm, hy⟩
    · split at h
      · exact .inr ⟨(Option.some.inj h).symm, hy⟩
      · exact .inl h
theorem fold_longer {s : List Int} : ∀ (w : List Want) (b : Option Want), (∀ z, w.foldl (longer s) b = some z → (b = some z ∨ z ∈ w ∧ z.path ∉ s) ∧ (∀ q ∈ w, q.path ∉ s → q.wait ≤ z.wait) ∧ (∀ c, b = some c → c.wait ≤ z.wait)) ∧ (w.foldl (longer s) b = none → b = none ∧ ∀ q ∈ w, q.path ∈ s)
  | [], b => ⟨fun z h => ⟨.inl h, fun q hq => (by cases hq), fun c hc => (by rw [List.foldl_nil] at h; rw [h] at hc; cases hc; exact Int.le_refl _)⟩, fun h => ⟨h, fun q hq => (by cases hq)⟩⟩
  | y :: w, b => by
    obtain ⟨i1, i2⟩ := fold_longer (s := s) w (longer s b y)
    rw [List.foldl_cons]
    refine ⟨fun z hz => ?_, fun hz => ?_⟩
    · obtain ⟨a1, a2, a3⟩ := i1 z hz
      have hstep : (∀ c, b = some c → ∃ d, longer s b y = some d ∧ c.wait ≤ d.wait) ∧ (y.path ∉ s → ∃ d, longer s b y = some d ∧ y.wait ≤ d.wait) := by
        constructor
        · intro c hc
          subst hc
          unfold longer
          split
          · exact ⟨c, rfl, Int.le_refl _⟩
          · simp only
            split
            · exact ⟨y, rfl, by omega⟩
            · exact ⟨c, rfl, Int.le_refl _⟩
        · intro hy
          unfold longer
          rw [if_neg (fun h => hy (has_mem.1 h))]
          cases b with
          | none => exact ⟨y, rfl, Int.le_refl _⟩
          | some c =>
            simp only
            split
            · exact ⟨y, rfl, Int.le_refl _⟩
            · exact ⟨c, rfl, by omega⟩
      refine ⟨?_, fun q hq hqs => ?_, fun c hc => ?_⟩
      · rcases a1 with a1 | a1
        · rcases longer_some a1 with h | ⟨rfl, h⟩
          · exact .inl h
          · exact .inr ⟨List.mem_cons_self .., h⟩
        · exact .inr ⟨List.mem_cons_of_mem _ a1.1, a1.2⟩
      · rcases List.mem_cons.1 hq with rfl | hq
        · obtain ⟨d, d1, d2⟩ := hstep.2 hqs
          have := a3 d d1
          omega
        · exact a2 q hq hqs
      · obtain ⟨d, d1, d2⟩ := hstep.1 c hc
        have := a3 d d1
        omega
    · obtain ⟨a1, a2⟩ := i2 hz
      unfold longer at a1
      split at a1
      · rename_i hh
        refine ⟨a1, fun q hq => ?_⟩
        rcases List.mem_cons.1 hq with rfl | hq
        · exact has_mem.1 hh
        · exact a2 q hq
      · split at a1
        · cases a1
        · split at a1 <;> cases a1
theorem longest_some {l : List Path} {w : List Want} {s : List Int} (hw : areWants l w = true) (h : longestId w s ≠ 0) : ∃ m ∈ w, m.path = longestId w s ∧ m.path ∉ s ∧ ∀ q ∈ w, q.path ∉ s → q.wait ≤ m.wait := by
  unfold longestId at h ⊢
  split at h
  · exact absurd rfl h
  · rename_i z hz
    obtain ⟨a1, a2, _⟩ := (fold_longer w none).1 z hz
    rcases a1 with a1 | a1
    · cases a1
    · exact ⟨z, a1.1, rfl, a1.2, a2⟩
theorem longest_none {l : List Path} {w : List Want} {s : List Int} (hw : areWants l w = true) (h : longestId w s = 0) : ∀ q ∈ w, q.path ∈ s := by
  unfold longestId at h
  split at h
  · rename_i hz
    exact ((fold_longer w none).2 hz).2
  · rename_i z hz
    exfalso
    obtain ⟨a1, _, _⟩ := (fold_longer w none).1 z hz
    rcases a1 with a1 | a1
    · cases a1
    · have := are_ids (wants_go hw).1 (wants_mem hw a1.1).1
      omega
theorem more_has {l : List Path} {a : List Int} {p : Path} {n : Int} (h : n ∈ a) : n ∈ more l a p := by
  unfold more
  split
  · rw [← has_mem, has_putI]; simp [has_mem.2 h]
  · exact h
theorem fold_more_has {l : List Path} : ∀ (r : List Path) (a : List Int) (n : Int), n ∈ a → n ∈ r.foldl (more l) a
  | [], _, _, h => h
  | p :: r, a, n, h => fold_more_has r _ n (more_has h)
theorem stage_has (l : List Path) (n : Int) : n ∈ addToStage l [n] := by
  unfold addToStage
  split
  · exact fold_more_has l [n] n (by simp)
  · simp
theorem stage_together {l : List Path} {n : Int} (h : arePaths l = true) (hn : ¬ findPath l n < 0) : together l (addToStage l [n]) = true := by
  unfold addToStage
  rw [if_pos (together_one h hn)]
  exact fold_together (together_one h hn)
theorem WInv.ask {l : List Path} {x : Control} {w : List Want} (hi : WInv l x w) (hc : isControl l x = true) (hw : areWants l w = true) : WInv l (asked l x w) (waited (asked l x w) w) := by
  have hl := (wants_go hw).1
  have hr := longest_r l
  have hcl := control_left hc
  cases hm : mustChange l x w with
  | false =>
    have he : asked l x w = tick l x := by unfold asked; rw [hm]; rfl
    rw [he]
    by_cases hn : x.next = []
    · have ht : tick l x = { x with since := if x.since < 1000000 then x.since + 1 else 1000000 } := by unfold tick; rw [if_pos hc, hn]; rfl
      rw [ht]
      by_cases h60 : x.since < 60
      · refine hi.go hl hc ?_ (fun _ => trivial) rfl (fun h => absurd hn h)
        unfold rem
        simp only [hn, if_true]
        rw [if_pos h60, if_pos (show x.since < 1000000 by omega)]
        split <;> omega
      · -- nobody outside the stage
        have hce : canEnd l x = true := by
          unfold canEnd
          have := leastGreen_r l x.stage
          simp only [hc, hn, List.isEmpty_nil, Bool.true_and, decide_eq_true_eq]
          omega
        have hz : longestId w x.stage = 0 := by
          by_cases c : longestId w x.stage = 0
          · exact c
          · exfalso
            unfold mustChange at hm
            rw [hce] at hm
            have hne : (nextStage l x w).isEmpty = false := by
              unfold nextStage
              rw [if_neg c, hc, hw]
              simp only [Bool.and_self, if_true]
              have := stage_has l (longestId w x.stage)
              cases hs : addToStage l [longestId w x.stage] with
              | nil => rw [hs] at this; cases this
              | cons _ _ => rfl
            rw [hne] at hm
            simp only [Bool.not_false, Bool.true_and, Bool.or_eq_false_iff, decide_eq_false_iff_not] at hm
            omega
        have hin := longest_none hw hz
        have hnil : waited { x with since := if x.since < 1000000 then x.since + 1 else 1000000 } w = [] := by
          unfold waited
          rw [List.filterMap_eq_nil_iff]
          intro q hq
          rw [if_pos (light_green (y := { x with since := if x.since < 1000000 then x.since + 1 else 1000000 }) hn (hin q hq))]
        rw [hnil]
        exact ⟨fun p hp => (by cases hp), fun _ p hp => (by cases hp), fun h => absurd hn h⟩
    · have hne : x.next.isEmpty = false := by cases hx : x.next with | nil => exact absurd hx hn | cons _ _ => rfl
      have hcl2 := hcl.2 hne
      obtain ⟨m, m1, m2, hms, m3⟩ := hi.m hn
      have hrx : rem l x = x.left := by unfold rem; rw [if_neg hn]
      by_cases h1 : x.left > 1
      · have ht : tick l x = { x with left := x.left - 1 } := by unfold tick; rw [if_pos hc, hne, if_neg (by simp), if_pos h1]
        rw [ht]
        refine hi.go hl hc ?_ (fun _ => trivial) rfl (fun _ => ⟨m, m1, m2, hms, m3⟩)
        unfold rem
        rw [if_neg hn, if_neg hn]
        show x.left - 1 + 1 ≤ x.left
        omega
      · have ht : tick l x = ⟨x.next, 0, [], 0⟩ := by unfold tick; rw [if_pos hc, hne, if_neg (by simp), if_neg h1]
        rw [ht]
        exact hi.turn hl hc (by omega) rfl rfl m1 m2 m3
  | true =>
    have he : asked l x w = (askStage l x (nextStage l x w)).1 := by unfold asked; rw [hm]; rfl
    rw [he]
    unfold mustChange at hm
    simp only [Bool.and_eq_true, Bool.not_eq_true'] at hm
    obtain ⟨hce, hne, _⟩ := hm
    have hid : longestId w x.stage ≠ 0 := fun e => by
      unfold nextStage at hne
      rw [if_pos e] at hne
      cases hne
    have hst : nextStage l x w = addToStage l [longestId w x.stage] := by
      unfold nextStage
      rw [if_neg hid, hc, hw]
      rfl
    obtain ⟨m, m1, m2, m3, m4⟩ := longest_some hw hid
    have hms : m.path ∈ nextStage l x w := by rw [hst, m2]; exact stage_has l _
    have hfind := (wants_mem hw m1).1
    have htog : together l (nextStage l x w) = true := by rw [hst]; exact stage_together hl (by rw [← m2]; exact hfind)
    have hdiff : nextStage l x w ≠ x.stage := fun e => m3 (e ▸ hms)
    have hnext : x.next = [] := by
      unfold canEnd at hce
      simp only [Bool.and_eq_true] at hce
      exact List.isEmpty_iff.1 hce.2.1
    have hmax : ∀ q ∈ w, q.wait ≤ m.wait := fun q hq => by
      by_cases c : q.path ∈ x.stage
      · rw [hi.z hnext q hq c]; exact (wants_mem hw m1).2.1
      · exact m4 q hq c
    have hrx : longestClear l + 1 ≤ rem l x := by unfold rem; rw [if_pos hnext]; split <;> omega
    unfold askStage
    rw [hce, hne, htog]
    simp only [hdiff, Bool.not_false, decide_false, Bool.and_self, if_true]
    by_cases h0 : clearBetween l x.stage (nextStage l x w) = 0
    · rw [if_pos h0]
      exact hi.turn hl hc (by omega) rfl rfl m1 hms hmax
    · rw [if_neg h0]
      have hnn : nextStage l x w ≠ [] := fun e => by rw [e] at hms; cases hms
      refine hi.go hl hc ?_ (fun _ => trivial) rfl (fun _ => ⟨m, m1, hms, m3, hmax⟩)
      have := clear_long l x.stage (nextStage l x w)
      have hr2 : rem l ⟨x.stage, x.since, nextStage l x w, clearBetween l x.stage (nextStage l x w)⟩ = clearBetween l x.stage (nextStage l x w) := by unfold rem; rw [if_neg hnn]
      rw [hr2]
      omega
theorem WInv.nil {l : List Path} {x : Control} (h : x.next = []) : WInv l x [] := ⟨fun p hp => (by cases hp), fun _ p hp => (by cases hp), fun h' => absurd h h'⟩
theorem WInv.call {l : List Path} {x : Control} {w : List Want} (hi : WInv l x w) (hc : isControl l x = true) (p : Int) : WInv l x (addWant l w p).1 := by
  have hr := longest_r l
  have hrem := rem_r hc
  unfold addWant
  split
  · rename_i h
    have hle := wants_le h
    have hmem : ∀ q, q ∈ putW w p (w.takeWhile fun x => decide (x.path < p)).length ↔ q ∈ w ∨ q = ⟨p, 0⟩ := fun q => by
      have := List.take_append_drop (w.takeWhile fun x => decide (x.path < p)).length w
      constructor
      · intro hq
        unfold putW at hq
        rw [List.append_assoc, List.mem_append, List.mem_append, List.mem_singleton] at hq
        rcases hq with hq | hq | hq
        · exact .inl (List.mem_of_mem_take hq)
        · exact .inr hq
        · exact .inl (List.mem_of_mem_drop hq)
      · intro hq
        unfold putW
        rw [List.append_assoc, List.mem_append, List.mem_append, List.mem_singleton]
        rcases hq with hq | hq
        · rw [← this, List.mem_append] at hq
          rcases hq with hq | hq
          · exact .inl hq
          · exact .inr (.inr hq)
        · exact .inr (.inl hq)
    have hrank : ∀ q : Want, 1 ≤ q.wait → rank (putW w p (w.takeWhile fun x => decide (x.path < p)).length) q = rank w q := fun q hq => by
      unfold rank putW
      rw [List.append_assoc, List.countP_append, List.countP_append, List.countP_singleton]
      have : ¬ (decide ((⟨p, 0⟩ : Want).path ≠ q.path ∧ q.wait ≤ (⟨p, 0⟩ : Want).wait)) = true := by
        simp only [decide_eq_true_eq]
        rintro ⟨_, h2⟩
        omega
      rw [if_neg this]
      have h3 := congrArg (List.countP fun z : Want => decide (z.path ≠ q.path ∧ q.wait ≤ z.wait)) (List.take_append_drop (w.takeWhile fun x => decide (x.path < p)).length w)
      rw [List.countP_append] at h3
      omega
    show WInv l x (putW w p (w.takeWhile fun x => decide (x.path < p)).length)
    refine ⟨fun q hq => ?_, fun hn q hq hs => ?_, fun hn => ?_⟩
    · by_cases c : 1 ≤ q.wait
      · have hq2 : q ∈ w := by
          rcases (hmem q).1 hq with h2 | h2
          · exact h2
          · rw [h2] at c; simp at c
        rw [hrank q c]
        exact hi.b q hq2
      · have h0 : q.wait = 0 := by have := (wants_mem h hq).2.1; omega
        have h1 := rank_lt hq
        have h2 := mulD (a := (rank (putW w p (w.takeWhile fun x => decide (x.path < p)).length) q : Int) + 1) (b := (l.length : Int)) (D := 61 + longestClear l) (by omega) (by omega)
        rw [Int.add_mul, Int.one_mul] at h2
        omega
    · rcases (hmem q).1 hq with h2 | h2
      · exact hi.z hn q h2 hs
      · rw [h2]
    · obtain ⟨m, m1, m2, m3, m4⟩ := hi.m hn
      refine ⟨m, (hmem m).2 (.inl m1), m2, m3, fun q hq => ?_⟩
      rcases (hmem q).1 hq with h2 | h2
      · exact m4 q h2
      · rw [h2]; exact (wants_mem h ((hmem m).2 (.inl m1))).2.1
  · exact hi
structure TInv (t : Town) : Prop where
  pr : t.prio = ⟨0, 0⟩
  w : WInv t.paths t.control t.wants
theorem note_same (u : Town) : (note u).paths = u.paths ∧ (note u).control = u.control ∧ (note u).wants = u.wants ∧ (note u).prio = u.prio := by
  unfold note
  split <;> exact ⟨rfl, rfl, rfl, rfl⟩
theorem TInv.note {u : Town} (h : TInv u) : TInv (note u) := by
  obtain ⟨e1, e2, e3, e4⟩ := note_same u
  exact ⟨by rw [e4]; exact h.pr, by rw [e1, e2, e3]; exact h.w⟩
theorem TInv.stepped {t o : Town} {ok : Bool} (h : TInv t) (ho : isTown t = true → TInv o) : TInv (stepped t o ok).1 := by
  unfold Sh.stepped
  split
  · rename_i c
    simp only [Bool.and_eq_true] at c
    exact ho c.2.1
  · exact h
theorem no_wish (l : List Path) (x : Control) (w : List Want) : prioStage l x w ⟨0, 0⟩ = asked l x w := by
  unfold prioStage wish
  have h1 : (isControl l x && (isPrio l ⟨0, 0⟩ && !((⟨0, 0⟩ : Prio).path == 0))) = false := by simp
  rw [h1]
  simp only [Bool.false_eq_true, if_false]
  rw [beq_ba, beq_ba, if_neg (by decide), if_neg (by decide)]
theorem TInv.second {t : Town} (h : TInv t) : TInv (stepSecond t).1 := by
  unfold stepSecond
  split
  · rename_i ht
    refine h.stepped fun _ => TInv.note ?_
    have hp := town_parts ht
    unfold seconded
    split
    · refine ⟨?_, ?_⟩
      · show (stepPrio t.paths t.control t.wants t.prio).2.2 = _
        unfold stepPrio
        split
        · show shorter t.prio = _
          rw [h.pr]; rfl
        · exact h.pr
      · show WInv t.paths (stepPrio t.paths t.control t.wants t.prio).1 (stepPrio t.paths t.control t.wants t.prio).2.1
        unfold stepPrio
        split
        · show WInv t.paths (prioStage t.paths t.control t.wants t.prio) (waited (prioStage t.paths t.control t.wants t.prio) t.wants)
          rw [h.pr, no_wish]
          exact h.w.ask hp.1 hp.2.1
        · exact h.w
    · exact ⟨h.pr, h.w⟩
  · exact h
theorem TInv.secs {t : Town} (h : TInv t) : ∀ (k : Nat) (u : Town), TInv u → TInv (secs t k u).1
  | 0, u, hu => hu
  | k + 1, u, hu => by
    unfold Sh.secs
    split
    · exact TInv.secs h k _ hu.second
    · exact h
theorem TInv.apply {t : Town} (h : TInv t) {e : Evt} (h2 : e.kind ≠ 2) (h6 : e.kind ≠ 6) : TInv (applyEvent t e).1 := by
  unfold applyEvent
  split
  · exact h.stepped fun ht => ⟨h.pr, h.w.call (town_parts ht).1 _⟩
  try rw [if_neg h2]
  split
  · unfold stepLamp
    split
    · exact h.stepped fun _ => TInv.note ⟨h.pr, h.w⟩
    · exact h
  split
  · unfold stepPower
    split
    · exact h.stepped fun _ => TInv.note ⟨h.pr, h.w⟩
    · exact h
  split
  · unfold stepSeconds
    split
    · exact h.secs _ t h
    · exact h
  try rw [if_neg h6]
  exact h
theorem TInv.bounded {t : Town} (h : TInv t) (ht : isTown t = true) : waitsBounded t = true := by
  have hp := town_parts ht
  have hr := longest_r t.paths
  have hl := are_len (control_are hp.1)
  unfold waitsBounded
  rw [List.all_eq_true]
  intro p hpw
  have h1 := h.w.wait_le hp.1 hpw
  have h2 := small (control_are hp.1)
  have e : waitBound t.paths = ((t.paths.length : Int) + 1) * (60 + longestClear t.paths + 20 + 1) := by
    unfold waitBound
    rw [W_id (n := (t.paths.length : Int) + 1) (by omega) (by omega), W_id (n := 60 + longestClear t.paths) (by omega) (by omega), W_id (n := 60 + longestClear t.paths + 20) (by omega) (by omega), W_id (n := 60 + longestClear t.paths + 20 + 1) (by omega) (by omega)]
    have h3 := mulD (a := (t.paths.length : Int) + 1) (b := 13) (D := 60 + longestClear t.paths + 20 + 1) (by omega) (by omega)
    have h4 : 0 ≤ ((t.paths.length : Int) + 1) * (60 + longestClear t.paths + 20 + 1) := Int.mul_nonneg (by omega) (by omega)
    exact W_id (by omega) (by omega)
  rw [e]
  have h5 : (t.paths.length : Int) * (61 + longestClear t.paths) ≤ ((t.paths.length : Int) + 1) * (60 + longestClear t.paths + 20 + 1) := by
    have h6 : (t.paths.length : Int) * (61 + longestClear t.paths) ≤ (t.paths.length : Int) * (60 + longestClear t.paths + 20 + 1) := Int.mul_le_mul_of_nonneg_left (by omega) (by omega)
    have h7 := mulD (a := (t.paths.length : Int)) (b := (t.paths.length : Int) + 1) (D := 60 + longestClear t.paths + 20 + 1) (by omega) (by omega)
    omega
  simp only [decide_eq_true_eq]
  omega
end Go.Sh
