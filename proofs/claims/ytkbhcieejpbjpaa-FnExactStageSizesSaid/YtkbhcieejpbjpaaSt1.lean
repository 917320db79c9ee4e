/- Stages: all subsets, and depth first. -/
import Derived.Test.YtkbhcieejpbjpaaQS
import Derived.Test.YtkbhcieejpbjpaaFzZK0
set_option linter.all false
namespace Go.Sh
open Go.Fx
def Ind (l : List Path) (a : List Int) : Prop := (∀ x ∈ a, ∃ p ∈ l, p.id = x) ∧ a.Pairwise (· < ·) ∧ ∀ x ∈ a, ∀ y ∈ a, conflict (pathAt l x) (pathAt l y) = false
theorem goT_of {l : List Path} {ids : List Int} (h : Ind l ids) : ∀ (r : List Int) (k : Nat), ids.drop k = r → goT l ids k r = true
  | [], _, _ => rfl
  | x :: r, k, hd => by
    have hk : ids[k]? = some x := by
      have : (ids.drop k)[0]? = some x := by rw [hd]; rfl
      rw [List.getElem?_drop] at this
      exact this
    have hx : x ∈ ids := List.mem_of_getElem? hk
    obtain ⟨p, hp, hpx⟩ := h.1 x hx
    have h1 : ¬ findPath l x < 0 := by rw [← hpx]; exact find_own' hp
    have h2 : prevOk ids k x = true := by
      unfold prevOk
      split
      · rfl
      · rename_i hk0
        have hlt : k < ids.length := (List.getElem?_eq_some_iff.1 hk).1
        have hk1 : k - 1 < ids.length := by omega
        rw [List.getElem?_eq_getElem hk1]
        have := (List.pairwise_iff_getElem.1 h.2.1) (k - 1) k hk1 hlt (by omega)
        rw [(List.getElem?_eq_some_iff.1 hk).2] at this
        simpa using this
    have h3 : (ids.take k).all (noClash l x) = true := List.all_eq_true.2 fun y hy => by
      unfold noClash
      rw [h.2.2 x hx y (List.mem_of_mem_take hy)]
      rfl
    have h4 := goT_of h r (k + 1) (by rw [← List.drop_drop, hd]; rfl)
    unfold goT
    rw [h2, h3, h4]
    simpa using h1
theorem together_iff {l : List Path} (hl : arePaths l = true) {a : List Int} : together l a = true ↔ Ind l a :=
  ⟨fun h => ⟨fun x hx => by
      obtain ⟨p, hp, e⟩ := find_mem (together_find h x hx)
      exact ⟨p, hp, e⟩, together_sorted h, fun x hx y hy => together_pair h hx hy⟩,
    fun h => by
      unfold together
      rw [goT_of h a 0 rfl, hl]
      rfl⟩
theorem putI_sorted {a : List Int} (h : a.Pairwise (· < ·)) (n : Int) : (putI a n).Pairwise (· < ·) := by
  unfold putI
  split
  · exact h
  · rename_i hn
    unfold ins
    have hlo : ∀ x ∈ a.take (low a n), x < n := fun x hx => by
      obtain ⟨i, hi⟩ := List.getElem?_of_mem hx
      rw [List.getElem?_take] at hi
      split at hi
      · exact low_lt ‹_› hi
      · cases hi
    have hhi : ∀ x ∈ a.drop (low a n), n < x := fun x hx => by
      obtain ⟨i, hi⟩ := List.getElem?_of_mem hx
      rw [List.getElem?_drop] at hi
      have h1 := low_ge h (Nat.le_add_right _ _) hi
      by_cases e : x = n
      · subst e
        cases i with
        | zero => exact absurd hi hn
        | succ i =>
          have hlt : low a x + (i + 1) < a.length := (List.getElem?_eq_some_iff.1 hi).1
          have h0 : low a x < a.length := by omega
          have h2 := low_ge h (Nat.le_refl _) (List.getElem?_eq_getElem h0)
          have h3 := (List.pairwise_iff_getElem.1 h) (low a x) (low a x + (i + 1)) h0 hlt (by omega)
          rw [(List.getElem?_eq_some_iff.1 hi).2] at h3
          omega
      · omega
    have hs : (a.take (low a n) ++ a.drop (low a n)).Pairwise (· < ·) := by rw [List.take_append_drop]; exact h
    obtain ⟨s1, s2, s3⟩ := List.pairwise_append.1 hs
    refine List.pairwise_append.2 ⟨List.pairwise_append.2 ⟨s1, List.pairwise_singleton .., fun x hx y hy => ?_⟩, s2, fun x hx y hy => ?_⟩
    · rw [List.mem_singleton.1 hy]; exact hlo x hx
    · rcases List.mem_append.1 hx with hx | hx
      · exact s3 x hx y hy
      · rw [List.mem_singleton.1 hx]; exact hhi y hy
theorem mem_putI {a : List Int} {n x : Int} : x ∈ putI a n ↔ x ∈ a ∨ n = x := by
  rw [← has_mem, has_putI, Bool.or_eq_true, has_mem, beq_iff_eq]
theorem full_iff {l : List Path} (hl : arePaths l = true) {e : List Int} : fullStage l e = true ↔ Ind l e ∧ ∀ p ∈ l, p.id ∉ e → ∃ x ∈ e, conflict p (pathAt l x) = true := by
  unfold fullStage
  rw [Bool.and_eq_true, together_iff hl]
  constructor
  · rintro ⟨h1, h2⟩
    refine ⟨h2, fun p hp hn => ?_⟩
    have := List.all_eq_true.1 h1 p hp
    rw [show has e p.id = false by rw [← Bool.not_eq_true, has_mem]; exact hn, Bool.false_or, Bool.not_eq_true', ← Bool.not_eq_true, together_iff hl] at this
    by_cases c : ∃ x ∈ e, conflict p (pathAt l x) = true
    · exact c
    · refine absurd ⟨fun x hx => ?_, putI_sorted h2.2.1 _, fun x hx y hy => ?_⟩ this
      · rcases mem_putI.1 hx with hx | rfl
        · exact h2.1 x hx
        · exact ⟨p, hp, rfl⟩
      · have key : ∀ z ∈ e, conflict p (pathAt l z) = false := fun z hz => by
          cases hc : conflict p (pathAt l z) with
          | false => rfl
          | true => exact absurd ⟨z, hz, hc⟩ c
        rcases mem_putI.1 hx with hx | rfl
        · rcases mem_putI.1 hy with hy | rfl
          · exact h2.2.2 x hx y hy
          · rw [own_at hl hp, conf_comm]; exact key x hx
        · rw [own_at hl hp]
          rcases mem_putI.1 hy with hy | rfl
          · exact key y hy
          · rw [own_at hl hp]; exact conf_self _
  · rintro ⟨h1, h2⟩
    refine ⟨List.all_eq_true.2 fun p hp => ?_, h1⟩
    cases hh : has e p.id with
    | true => rfl
    | false =>
      rw [Bool.false_or, Bool.not_eq_true', ← Bool.not_eq_true, together_iff hl]
      intro hI
      have hn : p.id ∉ e := fun hm => by rw [has_mem.2 hm] at hh; cases hh
      obtain ⟨x, hx, hc⟩ := h2 p hp hn
      have := hI.2.2 p.id (mem_putI.2 (.inr rfl)) x (mem_putI.2 (.inl hx))
      rw [own_at hl hp, hc] at this
      cases this
def allS (l : List Path) : List Path → List Int → List (List Int)
  | [], ids => if ids ≠ [] ∧ fullStage l ids = true then [ids] else []
  | p :: r, ids => (if together l (ids ++ [p.id]) = true then allS l r (ids ++ [p.id]) else []) ++ allS l r ids
theorem take_app {α : Type} {a b : List α} {n : Nat} (h : n ≤ 40) : a.take (40 - n) ++ b.take (40 - (n + (a.take (40 - n)).length)) = (a ++ b).take (40 - n) := by
  rw [List.take_append, List.length_take]
  congr 2
  omega
theorem search_all (l : List Path) : ∀ (r : List Path) (ids : List Int) (out : List (List Int)), out.length ≤ 40 → search l r ids out = out ++ (allS l r ids).take (40 - out.length)
  | [], ids, out, h => by
    unfold search allS
    by_cases c : ids ≠ [] ∧ fullStage l ids = true
    · rw [if_pos c]
      by_cases c2 : out.length < 40
      · rw [if_pos ⟨c.1, c2, c.2⟩, List.take_of_length_le (by simp; omega)]
      · rw [if_neg (fun h => c2 h.2.1), show 40 - out.length = 0 by omega]; simp
    · rw [if_neg c, if_neg (fun h => c ⟨h.1, h.2.2⟩)]; simp
  | p :: r, ids, out, h => by
    unfold search allS
    split
    · rename_i ht
      have h1 := search_all l r (ids ++ [p.id]) out h
      rw [search_all l r ids _ (search_len l r _ out h), h1, List.append_assoc, List.length_append, take_app h]
    · rw [search_all l r ids out h]; simp
theorem mem_all {l : List Path} (hl : arePaths l = true) : ∀ (r : List Path) (ids e : List Int), e ∈ allS l r ids ↔ e ≠ [] ∧ fullStage l e = true ∧ ∃ t, e = ids ++ t ∧ t.Sublist (r.map (·.id))
  | [], ids, e => by
    unfold allS
    constructor
    · intro h
      split at h
      · rename_i c
        rw [List.mem_singleton.1 h]
        exact ⟨c.1, c.2, [], by simp, by simp⟩
      · cases h
    · rintro ⟨h1, h2, t, h3, h4⟩
      have : t = [] := by simpa using h4
      subst this
      rw [List.append_nil] at h3
      subst h3
      rw [if_pos ⟨h1, h2⟩]
      exact List.mem_singleton.2 rfl
  | p :: r, ids, e => by
    unfold allS
    rw [List.mem_append, mem_all hl r ids e]
    constructor
    · rintro (h | ⟨h1, h2, t, h3, h4⟩)
      · split at h
        · obtain ⟨h1, h2, t, h3, h4⟩ := (mem_all hl r _ e).1 h
          exact ⟨h1, h2, p.id :: t, by rw [h3]; simp, h4.cons₂ _⟩
        · cases h
      · exact ⟨h1, h2, t, h3, h4.cons _⟩
    · rintro ⟨h1, h2, t, h3, h4⟩
      rw [List.map_cons] at h4
      cases h4 with
      | cons _ h4 => exact .inr ⟨h1, h2, t, h3, h4⟩
      | cons_cons _ h4 =>
        rename_i t'
        left
        have hI := ((full_iff hl).1 h2).1
        have hT : together l (ids ++ [p.id]) = true := by
          rw [together_iff hl]
          have e1 : e = (ids ++ [p.id]) ++ t' := by rw [h3]; simp
          rw [e1] at hI
          exact ⟨fun x hx => hI.1 x (List.mem_append_left _ hx), (List.pairwise_append.1 hI.2.1).1, fun x hx y hy => hI.2.2 x (List.mem_append_left _ hx) y (List.mem_append_left _ hy)⟩
        rw [if_pos hT, mem_all hl r _ e]
        exact ⟨h1, h2, t', by rw [h3]; simp, h4⟩
theorem app_lt {a b : List Int} : ∀ c : List Int, a < b → c ++ a < c ++ b
  | [], h => h
  | x :: c, h => List.cons_lt_cons_iff.2 (.inr ⟨rfl, app_lt c h⟩)
theorem all_sorted {l : List Path} (hl : arePaths l = true) : ∀ (r : List Path) (ids : List Int), (∀ p ∈ r, p ∈ l) → r.Pairwise (fun x y => x.id < y.id) → (allS l r ids).Pairwise (· < ·)
  | [], ids, _, _ => by
    unfold allS
    split
    · exact List.pairwise_singleton ..
    · exact .nil
  | p :: r, ids, hm, hp => by
    obtain ⟨hp1, hp2⟩ := List.pairwise_cons.1 hp
    have hm2 : ∀ q ∈ r, q ∈ l := fun q hq => hm q (List.mem_cons_of_mem _ hq)
    unfold allS
    refine List.pairwise_append.2 ⟨?_, all_sorted hl r ids hm2 hp2, fun e1 h1 e2 h2 => ?_⟩
    · split
      · exact all_sorted hl r _ hm2 hp2
      · exact .nil
    · split at h1
      case isFalse => cases h1
      rename_i hT
      obtain ⟨_, _, t1, rfl, _⟩ := (mem_all hl r _ e1).1 h1
      obtain ⟨_, f2, t2, rfl, s2⟩ := (mem_all hl r _ e2).1 h2
      rw [List.append_assoc]
      refine app_lt ids ?_
      rw [List.singleton_append]
      cases t2 with
      | nil =>
        rw [List.append_nil] at f2
        have hI := (together_iff hl).1 hT
        have hn : p.id ∉ ids := fun hx => by
          have := (List.pairwise_append.1 hI.2.1).2.2 p.id hx p.id (by simp)
          omega
        obtain ⟨x, hx, hc⟩ := ((full_iff hl).1 f2).2 p (hm p (List.mem_cons_self ..)) hn
        have := hI.2.2 p.id (by simp) x (List.mem_append_left _ hx)
        rw [own_at hl (hm p (List.mem_cons_self ..)), hc] at this
        cases this
      | cons y t2 =>
        have hy : y ∈ r.map (·.id) := s2.subset (List.mem_cons_self ..)
        obtain ⟨q, hq, rfl⟩ := List.mem_map.1 hy
        exact List.cons_lt_cons_iff.2 (.inl (hp1 q hq))
def idsM (l : List Path) (set : Nat) : List Int := (l.zipIdx.filter fun x => set.testBit x.2).map fun x => x.1.id
def goodM (l : List Path) (set : Nat) : Bool := l.zipIdx.all fun x => set.testBit x.2 == l.zipIdx.all fun y => !(set.testBit y.2 && conflict x.1 y.1)
def brute (l : List Path) : List (List Int) := (List.range' 1 (2 ^ l.length - 1)).filterMap fun set => if goodM l set = true then some (idsM l set) else none
theorem mem_idsM {l : List Path} {set : Nat} {x : Int} : x ∈ idsM l set ↔ ∃ i p, l[i]? = some p ∧ set.testBit i = true ∧ p.id = x := by
  unfold idsM
  rw [List.mem_map]
  constructor
  · rintro ⟨⟨p, i⟩, h, rfl⟩
    obtain ⟨h1, h2⟩ := List.mem_filter.1 h
    exact ⟨i, p, by rw [List.mem_zipIdx_iff_getElem?] at h1; exact h1, h2, rfl⟩
  · rintro ⟨i, p, h1, h2, rfl⟩
    exact ⟨(p, i), List.mem_filter.2 ⟨by rw [List.mem_zipIdx_iff_getElem?]; exact h1, h2⟩, rfl⟩
theorem ids_inj {l : List Path} (hl : arePaths l = true) {i j : Nat} {p q : Path} (hi : l[i]? = some p) (hj : l[j]? = some q) (h : p.id = q.id) : i = j := by
  have hp := (goP_asc l none (are_go hl)).2
  have h1 := List.getElem?_eq_some_iff.1 hi
  have h2 := List.getElem?_eq_some_iff.1 hj
  rcases Nat.lt_trichotomy i j with c | c | c
  · have := (List.pairwise_iff_getElem.1 hp) i j h1.1 h2.1 c
    rw [h1.2, h2.2] at this
    omega
  · exact c
  · have := (List.pairwise_iff_getElem.1 hp) j i h2.1 h1.1 c
    rw [h1.2, h2.2] at this
    omega
theorem bit_idsM {l : List Path} (hl : arePaths l = true) {set i : Nat} {p : Path} (hi : l[i]? = some p) : p.id ∈ idsM l set ↔ set.testBit i = true := by
  rw [mem_idsM]
  constructor
  · rintro ⟨j, q, h1, h2, h3⟩
    rw [ids_inj hl hi h1 h3.symm]; exact h2
  · exact fun h => ⟨i, p, hi, h, rfl⟩
theorem idsM_sub (l : List Path) (set : Nat) : (idsM l set).Sublist (l.map (·.id)) := by
  have h : ((l.zipIdx.filter fun x => set.testBit x.2).map fun x => x.1.id).Sublist (l.zipIdx.map fun x => x.1.id) := (List.filter_sublist).map _
  have e : l.zipIdx.map (fun x => x.1.id) = l.map (·.id) := by
    rw [show (fun x : Path × Nat => x.1.id) = (fun p : Path => p.id) ∘ Prod.fst from rfl, ← List.map_map, List.zipIdx_map_fst]
  rw [e] at h
  exact h
theorem ids_sorted {l : List Path} (hl : arePaths l = true) : (l.map (·.id)).Pairwise (· < ·) := List.pairwise_map.2 (goP_asc l none (are_go hl)).2
theorem good_iff {l : List Path} {set : Nat} : goodM l set = true ↔ ∀ i p, l[i]? = some p → (set.testBit i = true ↔ ∀ j q, l[j]? = some q → set.testBit j = true → conflict p q = false) := by
  unfold goodM
  rw [List.all_eq_true]
  have key : ∀ p : Path, (l.zipIdx.all fun y => !(set.testBit y.2 && conflict p y.1)) = true ↔ ∀ j q, l[j]? = some q → set.testBit j = true → conflict p q = false := fun p => by
    rw [List.all_eq_true]
    constructor
    · intro h j q hj hb
      have := h (q, j) (by rw [List.mem_zipIdx_iff_getElem?]; exact hj)
      simpa [hb] using this
    · rintro h ⟨q, j⟩ hm
      rw [List.mem_zipIdx_iff_getElem?] at hm
      have := h j q hm
      cases hb : set.testBit j with
      | false => simp [hb]
      | true => simp [hb, this hb]
  constructor
  · intro h i p hi
    have := h (p, i) (by rw [List.mem_zipIdx_iff_getElem?]; exact hi)
    rw [beq_iff_eq] at this
    simp only at this
    rw [this, key]
  · rintro h ⟨p, i⟩ hm
    rw [List.mem_zipIdx_iff_getElem?] at hm
    rw [beq_iff_eq, Bool.eq_iff_iff]
    simp only
    rw [key]
    exact h i p hm
theorem full_good {l : List Path} (hl : arePaths l = true) {set : Nat} : fullStage l (idsM l set) = true ↔ goodM l set = true := by
  rw [full_iff hl, good_iff]
  constructor
  · rintro ⟨hI, hM⟩ i p hi
    have hp := List.mem_of_getElem? hi
    constructor
    · intro hb j q hj hb2
      have := hI.2.2 p.id ((bit_idsM hl hi).2 hb) q.id ((bit_idsM hl hj).2 hb2)
      rwa [own_at hl hp, own_at hl (List.mem_of_getElem? hj)] at this
    · intro h
      cases hb : set.testBit i with
      | true => rfl
      | false =>
        obtain ⟨x, hx, hc⟩ := hM p hp (fun hm => by rw [(bit_idsM hl hi).1 hm] at hb; cases hb)
        obtain ⟨j, q, h1, h2, rfl⟩ := mem_idsM.1 hx
        rw [own_at hl (List.mem_of_getElem? h1), h j q h1 h2] at hc
        cases hc
  · intro h
    refine ⟨⟨fun x hx => ?_, (ids_sorted hl).sublist (idsM_sub l set), fun x hx y hy => ?_⟩, fun p hp hn => ?_⟩
    · obtain ⟨j, q, h1, _, rfl⟩ := mem_idsM.1 hx
      exact ⟨q, List.mem_of_getElem? h1, rfl⟩
    · obtain ⟨i, p, h1, h2, rfl⟩ := mem_idsM.1 hx
      obtain ⟨j, q, h3, h4, rfl⟩ := mem_idsM.1 hy
      rw [own_at hl (List.mem_of_getElem? h1), own_at hl (List.mem_of_getElem? h3)]
      exact (h i p h1).1 h2 j q h3 h4
    · obtain ⟨i, hi⟩ := List.getElem?_of_mem hp
      by_cases c : ∃ x ∈ idsM l set, conflict p (pathAt l x) = true
      · exact c
      · refine absurd ((bit_idsM hl hi).2 ((h i p hi).2 fun j q hj hb => ?_)) hn
        cases hc : conflict p q with
        | false => rfl
        | true => exact absurd ⟨q.id, (bit_idsM hl hj).2 hb, by rw [own_at hl (List.mem_of_getElem? hj)]; exact hc⟩ c
def mk (f : Nat → Bool) : Nat → Nat
  | 0 => 0
  | n + 1 => mk f n ||| (if f n then 2 ^ n else 0)
theorem mk_bit (f : Nat → Bool) : ∀ n i, (mk f n).testBit i = (decide (i < n) && f i)
  | 0, i => by simp [mk]
  | n + 1, i => by
    unfold mk
    rw [Nat.testBit_or, mk_bit f n i]
    cases hf : f n with
    | true =>
      simp only [if_true, Nat.testBit_two_pow]
      by_cases c : i = n
      · subst c; simp [hf]
      · have : decide (n = i) = false := by simp; omega
        rw [this, Bool.or_false]
        congr 1
        simp; omega
    | false =>
      simp only [Bool.false_eq_true, if_false, Nat.zero_testBit, Bool.or_false]
      by_cases c : i = n
      · subst c; simp [hf]
      · congr 1
        simp; omega
theorem mk_lt (f : Nat → Bool) (n : Nat) : mk f n < 2 ^ n := Nat.lt_pow_two_of_testBit _ fun i hi => by
  rw [mk_bit]
  simp; omega
theorem ind_idsM {l : List Path} (hl : arePaths l = true) {e : List Int} (h : Ind l e) : ∃ set, set < 2 ^ l.length ∧ idsM l set = e := by
  let f : Nat → Bool := fun i => match l[i]? with | some p => has e p.id | none => false
  refine ⟨mk f l.length, mk_lt _ _, ?_⟩
  have hs := (ids_sorted hl).sublist (idsM_sub l (mk f l.length))
  have hmem : ∀ x, x ∈ idsM l (mk f l.length) ↔ x ∈ e := fun x => by
    rw [mem_idsM]
    constructor
    · rintro ⟨i, p, h1, h2, rfl⟩
      rw [mk_bit, Bool.and_eq_true] at h2
      have : has e p.id = true := by have := h2.2; simpa only [f, h1] using this
      exact has_mem.1 this
    · intro hx
      obtain ⟨p, hp, rfl⟩ := h.1 x hx
      obtain ⟨i, hi⟩ := List.getElem?_of_mem hp
      refine ⟨i, p, hi, ?_, rfl⟩
      rw [mk_bit, Bool.and_eq_true]
      exact ⟨by simpa using (List.getElem?_eq_some_iff.1 hi).1, by simp only [f, hi]; exact has_mem.2 hx⟩
  have hnd : ∀ {a : List Int}, a.Pairwise (· < ·) → a.Nodup := fun h => h.imp fun h => by omega
  exact List.Perm.eq_of_pairwise (le := (· < ·)) (fun a b _ _ h1 h2 => by omega) hs h.2.1 ((List.perm_ext_iff_of_nodup (hnd hs) (hnd h.2.1)).2 hmem)
theorem idsM_inj {l : List Path} (hl : arePaths l = true) {a b : Nat} (ha : a < 2 ^ l.length) (hb : b < 2 ^ l.length) (h : idsM l a = idsM l b) : a = b := by
  refine Nat.eq_of_testBit_eq fun i => ?_
  by_cases hi : i < l.length
  · have hx := List.getElem?_eq_getElem hi
    have h1 := bit_idsM hl (set := a) hx
    have h2 := bit_idsM hl (set := b) hx
    rw [h, h2] at h1
    exact (Bool.eq_iff_iff.2 h1).symm
  · have hp : 2 ^ l.length ≤ 2 ^ i := Nat.pow_le_pow_right (by decide) (by omega)
    rw [Nat.testBit_lt_two_pow (by omega), Nat.testBit_lt_two_pow (by omega)]
theorem mem_brute {l : List Path} (hl : arePaths l = true) {e : List Int} : e ∈ brute l ↔ e ≠ [] ∧ fullStage l e = true := by
  unfold brute
  rw [List.mem_filterMap]
  constructor
  · rintro ⟨set, h1, h2⟩
    split at h2
    case isFalse => cases h2
    rename_i hg
    cases h2
    rw [List.mem_range'_1] at h1
    refine ⟨fun h0 => ?_, (full_good hl).2 hg⟩
    have : set = 0 := by
      refine Nat.eq_of_testBit_eq fun i => ?_
      rw [Nat.zero_testBit]
      by_cases hi : i < l.length
      · cases hb : set.testBit i with
        | false => rfl
        | true =>
          have := (bit_idsM hl (set := set) (List.getElem?_eq_getElem hi)).2 hb
          rw [h0] at this
          cases this
      · have hp : 2 ^ l.length ≤ 2 ^ i := Nat.pow_le_pow_right (by decide) (by omega)
        exact Nat.testBit_lt_two_pow (by omega)
    omega
  · rintro ⟨h1, h2⟩
    obtain ⟨set, hs, rfl⟩ := ind_idsM hl ((full_iff hl).1 h2).1
    refine ⟨set, ?_, by rw [if_pos ((full_good hl).1 h2)]⟩
    rw [List.mem_range'_1]
    have : set ≠ 0 := fun h0 => h1 (by
      subst h0
      unfold idsM
      simp)
    omega
theorem brute_nodup {l : List Path} (hl : arePaths l = true) : (brute l).Nodup := by
  unfold brute
  refine List.Pairwise.filterMap (R := fun a b => a < b ∧ b < 2 ^ l.length) _ ?_ ?_
  · rintro a b ⟨h1, h2⟩ x hx y hy
    split at hx
    case isFalse => cases hx
    split at hy
    case isFalse => cases hy
    cases hx
    cases hy
    intro h
    have := idsM_inj hl (by omega) h2 h
    omega
  · rw [List.pairwise_iff_getElem]
    intro i j hi hj hij
    rw [List.length_range'] at hi hj
    simp only [List.getElem_range']
    omega
theorem sort_brute {l : List Path} (hl : arePaths l = true) : sortL (brute l) = allS l l [] := by
  have hs := all_sorted hl l [] (fun _ h => h) (goP_asc l none (are_go hl)).2
  refine (sortL_of ?_ (hs.imp fun h => List.le_of_lt h)).symm
  have hnd : (allS l l []).Nodup := hs.imp fun h e => by
    subst e
    exact List.lt_irrefl _ h
  refine (List.perm_ext_iff_of_nodup hnd (brute_nodup hl)).2 fun e => ?_
  rw [mem_brute hl, mem_all hl]
  constructor
  · rintro ⟨h1, h2, _⟩
    exact ⟨h1, h2⟩
  · rintro ⟨h1, h2⟩
    obtain ⟨set, _, rfl⟩ := ind_idsM hl ((full_iff hl).1 h2).1
    exact ⟨h1, h2, _, rfl, idsM_sub l set⟩
theorem stagesOf_brute {l : List Path} (hl : arePaths l = true) : stagesOf l = (sortL (brute l)).take 40 := by
  unfold stagesOf
  rw [if_pos hl, search_all l l [] [] (by simp), sort_brute hl]
  simp
end Go.Sh
