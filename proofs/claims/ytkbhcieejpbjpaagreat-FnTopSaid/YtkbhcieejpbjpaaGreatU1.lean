/- Top: what is shown is safe, and the record tells it. -/
import Derived.Test.YtkbhcieejpbjpaaGreatQT
set_option linter.all false
namespace Go.Sh
open Go.Fx
theorem goT_clash {l : List Path} {ids : List Int} : ∀ {r : List Int} {k : Nat}, goT l ids k r = true → ∀ (i : Nat) (x : Int), r[i]? = some x → (ids.take (k + i)).all (noClash l x) = true
  | [], _, _, i, x, hx => by simp at hx
  | y :: r, k, h, i, x, hx => by
    simp only [goT, Bool.and_eq_true] at h
    cases i with
    | zero => simp at hx; subst hx; exact h.1.2
    | succ i =>
      have := goT_clash h.2 i x (by simpa using hx)
      rwa [show k + 1 + i = k + (i + 1) by omega] at this
theorem together_pair {l : List Path} {a : List Int} (h : together l a = true) {x y : Int} (hx : x ∈ a) (hy : y ∈ a) : conflict (pathAt l x) (pathAt l y) = false := by
  unfold together at h
  rw [Bool.and_eq_true] at h
  obtain ⟨i, hi⟩ := List.getElem?_of_mem hx
  obtain ⟨j, hj⟩ := List.getElem?_of_mem hy
  have key : ∀ {i j : Nat} {x y : Int}, a[i]? = some x → a[j]? = some y → j < i → conflict (pathAt l x) (pathAt l y) = false := fun {i j x y} hi hj c => by
    have h1 := goT_clash h.1 i x hi
    have hm : y ∈ a.take (0 + i) := by
      rw [Nat.zero_add, List.mem_iff_getElem?]
      exact ⟨j, by rw [List.getElem?_take, if_pos c]; exact hj⟩
    have := List.all_eq_true.1 h1 _ hm
    unfold noClash at this
    simpa using this
  rcases Nat.lt_trichotomy i j with c | c | c
  · rw [conf_comm]; exact key hj hi c
  · subst c
    rw [hi] at hj
    cases hj
    exact conf_self _
  · exact key hi hj c
theorem find_own' {l : List Path} {x : Path} (hx : x ∈ l) : ¬ findPath l x.id < 0 := by
  unfold findPath
  split
  · omega
  · rename_i hn
    have := List.findIdx?_eq_none_iff.1 hn x hx
    simp at this
theorem goP_asc : ∀ (l : List Path) (pv : Option Int), goP pv l = true → (∀ x ∈ l, ∀ a, pv = some a → a < x.id) ∧ l.Pairwise (fun x y => x.id < y.id)
  | [], _, _ => ⟨by simp, .nil⟩
  | x :: l, pv, h => by
    have h2 : goP (some x.id) l = true := by cases pv <;> · unfold goP at h; simp at h; simp [h]
    obtain ⟨g1, g2⟩ := goP_asc l _ h2
    have hx : ∀ a, pv = some a → a < x.id := fun a e => by
      subst e
      unfold goP at h
      simp at h
      exact h.1.2
    refine ⟨fun y hy a e => ?_, List.pairwise_cons.2 ⟨fun y hy => g1 y hy x.id rfl, g2⟩⟩
    rcases List.mem_cons.1 hy with rfl | hy
    · exact hx a e
    · have := g1 y hy x.id rfl
      have := hx a e
      omega
theorem are_go {l : List Path} (h : arePaths l = true) : goP none l = true := by
  unfold arePaths at h
  rw [Bool.and_eq_true] at h
  exact h.2
theorem own_at {l : List Path} (h : arePaths l = true) {x : Path} (hx : x ∈ l) : pathAt l x.id = x := by
  obtain ⟨k, hx⟩ := List.getElem?_of_mem hx
  obtain ⟨i, y, h1, h2, h3⟩ := findPath_lt (find_own' (List.mem_of_getElem? hx))
  have hy : pathAt l x.id = y := by unfold pathAt; rw [h2, Int.toNat_natCast, h1]; rfl
  rw [hy]
  have hp := (goP_asc l none (are_go h)).2
  rcases Nat.lt_trichotomy i k with c | c | c
  · have := (List.pairwise_iff_getElem.1 hp) i k (List.getElem?_eq_some_iff.1 h1).1 (List.getElem?_eq_some_iff.1 hx).1 c
    rw [(List.getElem?_eq_some_iff.1 h1).2, (List.getElem?_eq_some_iff.1 hx).2] at this
    omega
  · subst c
    rw [h1] at hx
    exact Option.some.inj hx
  · have := (List.pairwise_iff_getElem.1 hp) k i (List.getElem?_eq_some_iff.1 hx).1 (List.getElem?_eq_some_iff.1 h1).1 c
    rw [(List.getElem?_eq_some_iff.1 h1).2, (List.getElem?_eq_some_iff.1 hx).2] at this
    omega
theorem has_mem {a : List Int} {n : Int} : has a n = true ↔ n ∈ a := by
  unfold has
  rw [List.any_eq_true]
  constructor
  · rintro ⟨x, hx, h⟩
    have : x = n := by simpa using h
    exact this ▸ hx
  · intro h
    exact ⟨n, h, by simp⟩
theorem goS_of {z : List (Path × Int)} : ∀ (r : List (Path × Int)) (k : Nat), (∀ (j : Nat) (y : Path × Int), r[j]? = some y → inR y.2 0 2 = true ∧ (z.take (k + j)).all (clear2 y) = true) → goS z k r = true
  | [], _, _ => rfl
  | q :: r, k, h => by
    simp only [goS, Bool.and_eq_true]
    have h0 := h 0 q rfl
    refine ⟨⟨h0.1, h0.2⟩, goS_of r (k + 1) fun j y hy => ?_⟩
    have := h (j + 1) y (by simpa using hy)
    rwa [show k + (j + 1) = k + 1 + j by omega] at this
theorem safe_of {l : List Path} {f : Path → Int} (h : arePaths l = true) {a : List Int} (ha : together l a = true) (hr : ∀ p, 0 ≤ f p ∧ f p ≤ 2) (hf : ∀ p ∈ l, f p ≠ 0 → p.id ∈ a) : isSafe l (l.map f) = true := by
  unfold isSafe
  simp only [h, List.length_map, decide_true, Bool.true_and]
  refine goS_of _ 0 fun j y hy => ?_
  obtain ⟨h1, h2⟩ := zip_at hy
  rw [List.getElem?_map, h1] at h2
  have h2 : f y.1 = y.2 := by simpa using h2
  have hm : y.1 ∈ l := List.mem_of_getElem? h1
  refine ⟨?_, List.all_eq_true.2 fun z hz => ?_⟩
  · have := hr y.1
    unfold inR
    simp only [Bool.and_eq_true, decide_eq_true_eq]
    omega
  · have hz2 := List.mem_of_mem_take hz
    obtain ⟨i, hi⟩ := List.getElem?_of_mem hz2
    obtain ⟨g1, g2⟩ := zip_at hi
    rw [List.getElem?_map, g1] at g2
    have g2 : f z.1 = z.2 := by simpa using g2
    have gm : z.1 ∈ l := List.mem_of_getElem? g1
    unfold clear2
    by_cases c1 : y.2 = 0
    · simp [c1]
    by_cases c2 : z.2 = 0
    · simp [c2]
    have := together_pair ha (hf y.1 hm (by rw [h2]; exact c1)) (hf z.1 gm (by rw [g2]; exact c2))
    rw [own_at h hm, own_at h gm] at this
    simp [this]
theorem lightAt_r (x : Control) (n : Int) : 0 ≤ lightAt x n ∧ lightAt x n ≤ 2 := by unfold lightAt; repeat' split <;> omega
theorem lightAt_in {x : Control} {n : Int} (h : lightAt x n ≠ 0) : n ∈ x.stage := by
  unfold lightAt at h
  split at h
  · rename_i c; exact has_mem.1 c
  · exact absurd rfl h
theorem control_are {l : List Path} {x : Control} (h : isControl l x = true) : arePaths l = true := together_are (control_parts h).2.1
theorem lightsOf_eq {l : List Path} {x : Control} (h : isControl l x = true) : lightsOf l x = l.map fun p => lightAt x p.id := by
  unfold lightsOf
  rw [if_pos h]
theorem lightsOf_safe {l : List Path} {x : Control} (h : isControl l x = true) : isSafe l (lightsOf l x) = true := by
  rw [lightsOf_eq h]
  exact safe_of (control_are h) (control_parts h).2.1 (fun p => lightAt_r x p.id) fun p _ hp => lightAt_in hp
theorem dark_safe {l : List Path} (h : arePaths l = true) : isSafe l (l.map fun _ => 0) = true :=
  safe_of h (a := []) (by rw [together_nil]; exact h) (fun _ => by omega) fun p _ hp => absurd rfl hp
theorem lightsNow_safe {t : Town} (h : isTown t = true) : isSafe t.paths (lightsNow t) = true := by
  have hc := (town_parts h).1
  unfold lightsNow
  split
  · exact lightsOf_safe hc
  · exact dark_safe (control_are hc)
theorem safe_r {l : List Path} {v : List Int} (h : isSafe l v = true) : v.length = l.length ∧ ∀ n ∈ v, inR n 0 2 = true := by
  unfold isSafe at h
  simp only [Bool.and_eq_true, decide_eq_true_eq] at h
  refine ⟨h.1.2, fun n hn => ?_⟩
  obtain ⟨j, hj⟩ := List.getElem?_of_mem hn
  have hlt : j < l.length := by have := (List.getElem?_eq_some_iff.1 hj).1; omega
  have hz : (l.zip v)[j]? = some (l[j], n) := by rw [List.getElem?_zip_eq_some]; exact ⟨List.getElem?_eq_getElem hlt, hj⟩
  exact (goS_pair _ 0 h.2 j _ hz).1
theorem goAt_snoc (s : Int) (e : Note) (he : e.second ≤ s) : ∀ (l : List Note) (k : Nat) (a : Int), goAt s (l ++ [e]) k a = ((k + l.length : Nat) : Int)
  | [], k, a => by simp [goAt, he]
  | x :: l, k, a => by
    rw [List.cons_append, goAt, goAt_snoc s e he l (k + 1)]
    simp; omega
theorem shown_last {l : List Note} {e : Note} {s : Int} (hr : isRecord (l ++ [e]) = true) (he : e.second ≤ s) : shownAt (l ++ [e]) s = (e.lights, true) := by
  unfold shownAt entry entryAt
  rw [if_pos hr, goAt_snoc s e he l 0 (-1)]
  have h1 : ¬ ((0 + l.length : Nat) : Int) < 0 := by omega
  rw [if_neg h1, Int.toNat_natCast]
  simp
theorem goR_app {n : Nat} : ∀ {a c : List Note} {b : Int} {pv : Option Int}, goR n b pv (a ++ c) = true → goR n b pv a = true
  | [], _, _, _, _ => rfl
  | x :: a, c, b, pv, h => by
    simp only [List.cons_append, goR, Bool.and_eq_true] at h ⊢
    exact ⟨h.1, goR_app h.2⟩
theorem goR_snoc {n : Nat} {y : Note} {s : Int} {v : List Int} (hy : y.second = s ∧ y.lights = v) (hs : inR s 0 1000000 = true) (hv : v.length = n) (h12 : v.length ≤ 12) (hr : ∀ k ∈ v, inR k 0 2 = true) :
    ∀ {a : List Note} {b : Int} {pv : Option Int}, goR n b pv a = true → (∀ x ∈ a, x.second < s) → (a = [] → later pv s = true ∧ y.sig = sealOf b s v) → (∀ e, a.getLast? = some e → y.sig = sealOf e.sig s v) → goR n b pv (a ++ [y]) = true
  | [], b, pv, _, _, h1, _ => by
    obtain ⟨c1, c2⟩ := h1 rfl
    simp only [List.nil_append, goR, Bool.and_true, noteOk, hy.1, hy.2, hs, hv, c1, c2, decide_true, Bool.and_true, Bool.true_and, Bool.and_eq_true, decide_eq_true_eq]
    exact ⟨by omega, List.all_eq_true.2 hr⟩
  | x :: a, b, pv, h, hl, _, h2 => by
    simp only [goR, Bool.and_eq_true] at h
    simp only [List.cons_append, goR, Bool.and_eq_true]
    refine ⟨h.1, goR_snoc hy hs hv h12 hr h.2 (fun z hz => hl z (List.mem_cons_of_mem _ hz)) (fun e => ?_) fun e he => h2 e ?_⟩
    · subst e
      refine ⟨?_, h2 x rfl⟩
      have := hl x (List.mem_cons_self ..)
      simpa [later] using this
    · cases a with
      | nil => simp at he
      | cons z a => rw [List.getLast?_cons_cons]; exact he
theorem record_go {l : List Note} (h : isRecord l = true) : l.length ≤ 60 ∧ goR (firstLen l) 0 none l = true := by
  unfold isRecord at h
  simpa using h
theorem lastSec_le {l : List Note} (h : isRecord l = true) : ∀ x ∈ l, x.second ≤ lastSec l := by
  intro x hx
  have hs := (goR_sorted (record_go h).2).2
  have hne : l ≠ [] := by intro e; rw [e] at hx; cases hx
  obtain ⟨e, h1, h2, _⟩ := last_at hne
  obtain ⟨i, hi⟩ := List.getElem?_of_mem hx
  rw [h2]
  exact hs i (l.length - 1) x e (by have := (List.getElem?_eq_some_iff.1 hi).1; omega) hi h1
theorem goR_strict {n : Nat} : ∀ {a : List Note} {e : Note} {b : Int} {pv : Option Int}, goR n b pv (a ++ [e]) = true → ∀ x ∈ a, x.second < e.second
  | [], _, _, _, _, x, hx => by cases hx
  | y :: a, e, b, pv, h, x, hx => by
    simp only [List.cons_append, goR, Bool.and_eq_true] at h
    rcases List.mem_cons.1 hx with rfl | hx
    · cases a with
      | nil =>
        have := h.2
        simp only [List.nil_append, goR, Bool.and_eq_true] at this
        simpa [later] using this.1.2
      | cons z a =>
        have h1 := h.2
        simp only [List.cons_append, goR, Bool.and_eq_true] at h1
        have h2 : x.second < z.second := by simpa [later] using h1.1.2
        have h3 := goR_strict (a := z :: a) (pv := some x.second) (b := x.sig) (by simpa only [List.cons_append] using h.2) z (List.mem_cons_self ..)
        omega
    · exact goR_strict h.2 x hx
theorem cut_cases (u : Town) (hr : isRecord u.record = true) (hs : lastSec u.record ≤ u.now) : isRecord (cutLast u) = true ∧ (∀ x ∈ cutLast u, x.second < u.now) ∧ (cutLast u ≠ [] → firstLen (cutLast u) = firstLen u.record) := by
  obtain ⟨h60, hg⟩ := record_go hr
  unfold cutLast
  split
  · rename_i e he
    obtain ⟨a, ha⟩ := List.getLast?_eq_some_iff.1 he
    have hst := ha ▸ hg
    split
    · rename_i hn
      rw [ha, List.dropLast_concat]
      have hfl : a ≠ [] → firstLen a = firstLen (a ++ [e]) := fun h => by cases a with | nil => exact absurd rfl h | cons _ _ => rfl
      refine ⟨?_, fun x hx => hn ▸ goR_strict hst x hx, hfl⟩
      cases a with
      | nil => rfl
      | cons z a =>
        unfold isRecord
        rw [Bool.and_eq_true, decide_eq_true_eq]
        exact ⟨by rw [ha] at h60; simp at h60 ⊢; omega, goR_app hst⟩
    · rename_i hn
      refine ⟨hr, fun x hx => ?_, fun _ => rfl⟩
      have hl : lastSec u.record = e.second := by unfold lastSec; rw [he]
      have := lastSec_le hr x hx
      have : u.record = a ++ [e] := ha
      by_cases c : x.second = u.now
      · omega
      · omega
  · rename_i he
    have : u.record = [] := List.getLast?_eq_none_iff.1 he
    exact ⟨hr, fun x hx => (by rw [this] at hx; cases hx), fun _ => rfl⟩
theorem addEntry_true {a : List Note} {s : Int} {v : List Int} (h : isRecord (addEntry a s v).1 = true) (h2 : (addEntry a s v).2 = true) : shownAt (addEntry a s v).1 s = (v, true) := by
  unfold addEntry at h h2 ⊢
  split at h2
  · rename_i hr
    rw [if_pos hr]
    exact shown_last hr (Int.le_refl _)
  · cases h2
theorem note_lights (u : Town) : lightsNow (note u) = lightsNow u ∧ (note u).paths = u.paths ∧ (note u).control = u.control := by
  unfold note
  split <;> exact ⟨rfl, rfl, rfl⟩
theorem addNil_true {s : Int} {v : List Int} (h : (addEntry [] s v).1 ≠ []) : (addEntry [] s v).2 = true := by
  unfold addEntry at h ⊢
  split
  · rfl
  · rename_i c; rw [if_neg c] at h; exact absurd rfl h
theorem note_true {u : Town} (hr : isRecord u.record = true) (hne : u.record ≠ []) (hf : firstLen u.record = u.paths.length) (hs : lastSec u.record ≤ u.now) (h : isTown (note u) = true) : recordTrue (note u) = true := by
  have hp := town_parts h
  obtain ⟨n1, n2, n3⟩ := note_lights u
  obtain ⟨k1, k2, k3, k4, k5⟩ := note_keeps u
  have hsafe := lightsNow_safe h
  rw [n1, n2] at hsafe
  obtain ⟨v1, v2⟩ := safe_r hsafe
  have hare : arePaths u.paths = true := by have := control_are hp.1; rwa [n2] at this
  have h12 := are_len hare
  have hnow : inR u.now 0 1000000 = true := by
    have := hp.2.2.2.2.2.2.2.1
    rw [k5] at this
    simpa [inR] using this
  obtain ⟨c1, c2, c3⟩ := cut_cases u hr hs
  unfold recordTrue
  rw [n1, k5]
  have goal : shownAt (note u).record u.now = (lightsNow u, true) → ((shownAt (note u).record u.now).2 && decide ((shownAt (note u).record u.now).1 = lightsNow u)) = true := fun e => by rw [e]; simp
  refine goal ?_
  have hrec := hp.2.2.2.2.1
  have hnn := hp.2.2.2.2.2.1
  unfold note at hrec hnn ⊢
  split
  · rename_i c
    rw [if_pos c] at hrec hnn
    exact addEntry_true hrec (addNil_true hnn)
  · rename_i c
    rw [if_neg c] at hrec hnn
    revert hrec hnn c
    simp only
    unfold noteLights
    split
    · rename_i e he
      obtain ⟨a, ha⟩ := List.getLast?_eq_some_iff.1 he
      split
      · rename_i hl
        intro hrec _ _
        rw [ha] at hrec ⊢
        rw [← hl]
        refine shown_last hrec ?_
        have := c2 e (by rw [ha]; simp)
        omega
      · rename_i hl
        intro hrec hnn c
        cases h2 : (addEntry (cutLast u) u.now (lightsNow u)).2 with
        | true => exact addEntry_true hrec h2
        | false =>
          exfalso
          have hlen : (cutLast u).length ≠ 60 := fun e60 => c ⟨h2, e60⟩
          obtain ⟨h60, hg⟩ := record_go c1
          have hcne : cutLast u ≠ [] := by rw [ha]; simp
          have hfl := c3 hcne
          have hgo : goR (firstLen (cutLast u)) 0 none (cutLast u ++ [entryOf (cutLast u) u.now (lightsNow u)]) = true := by
            refine goR_snoc (y := entryOf (cutLast u) u.now (lightsNow u)) (s := u.now) (v := lightsNow u) ⟨rfl, rfl⟩ hnow (by rw [hfl, hf, v1]) (by omega) v2 hg c2 (fun e0 => absurd e0 hcne) fun e1 he1 => ?_
            show sealOf (lastSig (cutLast u)) u.now (lightsNow u) = _
            unfold lastSig
            rw [he1]
          have : isRecord (cutLast u ++ [entryOf (cutLast u) u.now (lightsNow u)]) = true := by
            unfold isRecord
            rw [Bool.and_eq_true, decide_eq_true_eq]
            refine ⟨by simp; omega, ?_⟩
            have hfa : firstLen (cutLast u ++ [entryOf (cutLast u) u.now (lightsNow u)]) = firstLen (cutLast u) := by
              cases hcu : cutLast u with
              | nil => exact absurd hcu hcne
              | cons _ _ => rfl
            rw [hfa]; exact hgo
          unfold addEntry at h2
          rw [if_pos this] at h2
          cases h2
    · rename_i he
      intro hrec hnn _
      have h0 : cutLast u = [] := List.getLast?_eq_none_iff.1 he
      rw [h0] at hrec hnn ⊢
      exact addEntry_true hrec (addNil_true hnn)
theorem town_rec {t : Town} (h : isTown t = true) : isRecord t.record = true ∧ t.record ≠ [] ∧ firstLen t.record = t.paths.length ∧ lastSec t.record ≤ t.now := by
  have hp := town_parts h
  simp only [isTown, Bool.and_eq_true, decide_eq_true_eq] at h
  exact ⟨hp.2.2.2.2.1, hp.2.2.2.2.2.1, h.1.1.1.2, h.1.1.2⟩
theorem stepped_true {t o : Town} {ok : Bool} (ht : isTown t = true → recordTrue t = true) (ho : isTown t = true → isTown o = true → recordTrue o = true) (h : isTown t = true) : recordTrue (stepped t o ok).1 = true := by
  unfold stepped
  split
  · rename_i c
    simp only [Bool.and_eq_true] at c
    exact ho c.2.1 c.2.2
  · exact ht h
theorem second_true {t : Town} (h : isTown t = true) (ht : recordTrue t = true) : recordTrue (stepSecond t).1 = true := by
  unfold stepSecond
  rw [if_pos h]
  refine stepped_true (fun _ => ht) (fun _ ho => ?_) h
  obtain ⟨r1, r2, r3, r4⟩ := town_rec h
  have hr := (seconded_record t).1
  have hn : (seconded t).now = t.now + 1 := by unfold seconded; split <;> rfl
  have hp : (seconded t).paths = t.paths := by unfold seconded; split <;> rfl
  exact note_true (by rw [hr]; exact r1) (by rw [hr]; exact r2) (by rw [hr, hp]; exact r3) (by rw [hr, hn]; omega) ho
theorem secs_true {t : Town} (h : recordTrue t = true) : ∀ (k : Nat) (u : Town), isTown u = true → recordTrue u = true → recordTrue (secs t k u).1 = true
  | 0, u, _, hu => hu
  | k + 1, u, h1, hu => by
    unfold secs
    split
    · exact secs_true h k _ (by rw [stepSecond_town, h1]) (second_true h1 hu)
    · exact h
theorem seconds_true {t : Town} (h : isTown t = true) (ht : recordTrue t = true) (n : Int) : recordTrue (stepSeconds t n).1 = true := by
  unfold stepSeconds
  split
  · exact secs_true ht _ t h ht
  · exact ht
theorem apply_true {t : Town} (h : isTown t = true) (ht : recordTrue t = true) (e : Evt) : recordTrue (applyEvent t e).1 = true := by
  obtain ⟨r1, r2, r3, r4⟩ := town_rec h
  unfold applyEvent
  split
  · exact stepped_true (fun _ => ht) (fun _ _ => ht) h
  split
  · exact stepped_true (fun _ => ht) (fun _ _ => ht) h
  split
  · unfold stepLamp
    rw [if_pos h]
    exact stepped_true (fun _ => ht) (fun _ ho => note_true r1 r2 r3 r4 ho) h
  split
  · unfold stepPower
    split
    · exact stepped_true (fun _ => ht) (fun _ ho => note_true r1 r2 r3 r4 ho) h
    · exact ht
  split
  · exact seconds_true h ht _
  split
  · unfold stepHelp
    split
    · refine stepped_true (fun _ => ht) (fun _ ho => ?_) h
      have hr := (helped_record t e.path).1
      have hn : (helped t e.path).now = t.now + 1 := by unfold helped; split <;> rfl
      have hp : (helped t e.path).paths = t.paths := by unfold helped; split <;> rfl
      exact note_true (by rw [hr]; exact r1) (by rw [hr]; exact r2) (by rw [hr, hp]; exact r3) (by rw [hr, hn]; omega) ho
    · exact ht
  · exact ht
theorem true_of {t : Town} (h : shownAt t.record t.now = (lightsNow t, true)) : recordTrue t = true := by
  unfold recordTrue
  rw [h]
  simp
theorem mode_new {l : List Path} (h : areLamps l [] = true) : mode l [] true = 0 := by
  unfold mode anyBad
  simp [h]
theorem newTown_true {l : List Path} (h : isTown (newTown l).1 = true) : recordTrue (newTown l).1 = true ∧ (newTown l).1.wants = [] ∧ (newTown l).1.prio = ⟨0, 0⟩ ∧ (newTown l).1.control.next = [] := by
  unfold newTown at h ⊢
  split
  · rename_i c
    rw [c] at h
    cases h
  · rename_i s r c
    rw [c] at h
    simp only at h
    split at h
    · rename_i ht
      rw [if_pos ht]
      refine ⟨true_of ?_, rfl, rfl, rfl⟩
      have hp := town_parts ht
      have hl : lightsNow (town1 l s) = lightsOf l ⟨s, 0, [], 0⟩ := by
        unfold lightsNow
        exact if_pos (mode_new hp.2.2.2.1)
      show shownAt (town1 l s).record 0 = (lightsNow (town1 l s), true)
      rw [hl]
      exact addEntry_true hp.2.2.2.2.1 (addNil_true hp.2.2.2.2.2.1)
    · cases h
end Go.Sh
