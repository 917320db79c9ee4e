/- Stages that grow by one path at a time. -/
import Derived.Test.YtjgfhonfmjfabaaGreatJ1
set_option linter.all false
namespace Go.Sh
open Go.Fx
theorem mid_v {i j : Nat} (h : i + j ≤ 1099511627776) : W (Int.fdiv (Go.IntKind.wrap Go.IntKind.u64 (W ((i : Int) + (j : Int)))) ((2 : Int) ^ (Min.min (Int.toNat (1 : Int)) (Go.IntKind.bits Go.IntKind.u64)))) = (((i + j) / 2 : Nat) : Int) := by
  rw [show W ((i : Int) + (j : Int)) = (i : Int) + j from W_id (by omega) (by omega), show ((2 : Int) ^ (Min.min (Int.toNat (1 : Int)) (Go.IntKind.bits Go.IntKind.u64))) = 2 from rfl]
  have e : Go.IntKind.wrap Go.IntKind.u64 ((i : Int) + j) = (i : Int) + j := by
    unfold IntKind.wrap
    rw [show IntKind.u64.signed = false from rfl, show IntKind.u64.bits = 64 from rfl]
    simp
    omega
  rw [e, Int.fdiv_eq_ediv_of_nonneg _ (by omega), W_id (by omega) (by omega)]
  omega
def low (l : List Int) (n : Int) : Nat := (l.takeWhile fun x => decide (x < n)).length
theorem low_le (l : List Int) (n : Int) : low l n ≤ l.length := takeWhile_le _ _
theorem low_lt : ∀ {l : List Int} {n : Int} {i : Nat} {a : Int}, i < low l n → l[i]? = some a → a < n
  | [], n, i, a, h, hx => by cases hx
  | y :: l, n, i, a, h, hx => by
    unfold low at h
    rw [List.takeWhile_cons] at h
    by_cases c : y < n
    · rw [if_pos (by simp [c])] at h
      cases i with
      | zero => cases hx; exact c
      | succ i => exact low_lt (i := i) (by unfold low; simpa using h) hx
    · rw [if_neg (by simp [c])] at h
      cases h
theorem low_at : ∀ {l : List Int} {n : Int} {a : Int}, l[low l n]? = some a → ¬ a < n
  | [], n, a, h => by cases h
  | y :: l, n, a, h => by
    unfold low at h
    rw [List.takeWhile_cons] at h
    by_cases c : y < n
    · rw [if_pos (by simp [c])] at h
      exact low_at (l := l) (n := n) (by unfold low; simpa using h)
    · rw [if_neg (by simp [c])] at h
      cases h
      exact c
theorem low_ge {l : List Int} (hp : l.Pairwise (· < ·)) {n : Int} {i : Nat} {a : Int} (h : low l n ≤ i) (hx : l[i]? = some a) : ¬ a < n := by
  obtain ⟨hi, rfl⟩ := List.getElem?_eq_some_iff.1 hx
  have h1 : l[low l n]? = some l[low l n] := List.getElem?_eq_getElem (by omega)
  have h2 := low_at h1
  rcases Nat.lt_or_eq_of_le h with h | h
  · have := List.pairwise_iff_getElem.1 hp (low l n) i (by omega) hi h
    omega
  · simp only [← h]
    exact h2
theorem less_v (x y : Int) : S_cmp_Less_int x y = some (decide (x < y)) := by
  unfold S_cmp_Less_int S_cmp_isNaN_int
  simp
theorem bsearch_v (l : List Int) (n : Int) (hs : Sm l) (hp : l.Pairwise (· < ·)) : S_slices_BinarySearch_int_int l n = some ((low l n : Int), decide (l[low l n]? = some n)) := by
  unfold Sm at hs
  unfold S_slices_BinarySearch_int_int
  simp only [rws_i, len_i, geti_i]
  refine iter_ind (R := fun _ => some ((low l n : Int), decide (l[low l n]? = some n))) (fun v => (v.2.2.2.2 - v.2.2.2.1).toNat) (fun v => ∃ i j : Nat, v = (l, n, (l.length : Int), (i : Int), (j : Int)) ∧ i ≤ low l n ∧ low l n ≤ j ∧ j ≤ l.length) ?_ NN _ ⟨0, l.length, rfl, Nat.zero_le _, low_le l n, Nat.le_refl _⟩ (NN_big (by simp; omega))
  rintro rec _ ⟨i, j, rfl, h1, h2, h3⟩ hr
  by_cases c : i < j
  · have hlt : (i + j) / 2 < l.length := by omega
    have hx : l[(i + j) / 2]? = some l[(i + j) / 2] := List.getElem?_eq_getElem hlt
    simp only [show decide ((i : Int) < (j : Int)) = true from decide_eq_true (by omega), cnd_tt, mid_v (show i + j ≤ 1099511627776 by omega), getZ_at hx, less_v, bnd_some, W_n1 (show (i + j) / 2 ≤ 9223372036854775806 by omega)]
    by_cases c2 : l[(i + j) / 2] < n
    · rw [decide_eq_true c2, cnd_tt]
      refine hr _ ⟨(i + j) / 2 + 1, j, by simp, ?_, h2, h3⟩ (by simp; omega)
      rcases Nat.lt_or_ge ((i + j) / 2) (low l n) with h | h
      · omega
      · exact absurd c2 (low_ge hp h hx)
    · rw [decide_eq_false c2, cnd_ff]
      refine hr _ ⟨i, (i + j) / 2, rfl, h1, ?_, by omega⟩ (by simp; omega)
      rcases Nat.lt_or_ge ((i + j) / 2) (low l n) with h | h
      · exact absurd (low_lt h hx) c2
      · exact h
  · have hi : i = low l n := by omega
    subst hi
    simp only [show decide (((low l n : Nat) : Int) < (j : Int)) = false from decide_eq_false (by omega), cnd_ff]
    by_cases c3 : low l n < l.length
    · have hx : l[low l n]? = some l[low l n] := List.getElem?_eq_getElem c3
      simp only [show decide (((low l n : Nat) : Int) < ((l.length : Nat) : Int)) = true from decide_eq_true (by omega), cnd_tt, getZ_at hx]
      unfold S_slices_isNaN_int
      by_cases c4 : l[low l n] = n
      · simp [c4, hx]
      · simp [c4, hx, show (l[low l n] == n) = false from beq_eq_false_iff_ne.2 c4]
    · have hx : l[low l n]? = none := List.getElem?_eq_none (by omega)
      simp only [show decide (((low l n : Nat) : Int) < ((l.length : Nat) : Int)) = false from decide_eq_false (by omega), cnd_ff, hx]
      simp
def ins (l : List Int) (n : Int) : List Int := l.take (low l n) ++ [n] ++ l.drop (low l n)
def putI (l : List Int) (n : Int) : List Int := if l[low l n]? = some n then l else ins l n
theorem ins_len (l : List Int) (n : Int) : (ins l n).length = l.length + 1 := by
  have := low_le l n
  unfold ins
  simp only [List.length_append, List.length_take, List.length_drop, List.length_singleton]
  omega
theorem rws_ins (l : List Int) (n : Int) (k : Nat) {β : Type} (K : List Int → Option β) : rws iR (((l.take k).map iR.enc ++ [[I n]]) ++ (l.drop k).map iR.enc) K = K (l.take k ++ [n] ++ l.drop k) := by
  have e : ((l.take k).map iR.enc ++ [[I n]]) ++ (l.drop k).map iR.enc = (l.take k ++ [n] ++ l.drop k).map iR.enc := by
    have h1 := List.map_append (f := iR.enc) (l₁ := l.take k ++ [n]) (l₂ := l.drop k)
    have h2 := List.map_append (f := iR.enc) (l₁ := l.take k) (l₂ := [n])
    exact (h1.trans (congrArg (· ++ _) h2)).symm
  rw [e]
  exact rws_i _ _
theorem rws_ins2 (l : List Int) (n : Int) (k : Nat) {β : Type} (K : List Int → Option β) : rws iR (((l.take k).map iR.enc ++ [[I n]]) ++ ((l.take l.length).drop k).map iR.enc) K = K (l.take k ++ [n] ++ l.drop k) := by
  rw [List.take_length]
  exact rws_ins l n k K
theorem sl6Put_v (l : List Int) (n : Int) (h : Sm l) : S_sl6Put l n = some (putI l n) := by
  have h' := h
  unfold Sm at h'
  unfold S_sl6Put
  simp only [rws_i, len_i, geti_i]
  have hk := low_le l n
  refine (while_loop l (fun x => decide (x < n)) (by omega) (fun k => (l, n, (k : Int))) (fun k => some (if l[k]? = some n then l else l.take k ++ [n] ++ l.drop k)) rfl ?_ ?_).trans rfl
  · intro rec
    rw [show decide (((l.length : Nat) : Int) < ((l.length : Nat) : Int)) = false from decide_eq_false (by omega), cnd_ff, cnd_ff]
    simp only [Int.toNat_natCast, show Int.toNat 0 = 0 from rfl, List.drop_zero, take_i, drop_i, clrs_i, len_i, List.length_nil, List.length_append, List.length_take, List.length_drop, List.length_singleton, rws_ins2]
    rw [ifA_pos (by omega), ifA_pos (by omega), ifA_pos (by omega), ifA_pos (by omega), ifA_pos (by omega)]
    rw [if_neg (by simp)]
  · intro rec k x hx hkl
    rw [show decide (((k : Nat) : Int) < ((l.length : Nat) : Int)) = true from decide_eq_true (by omega), cnd_tt, getZ_at hx]
    by_cases c : x < n
    · simp [c, W_n1 (show k ≤ 9223372036854775806 by omega)]
    rw [decide_eq_false c, cnd_ff, cnd_tt, getZ_at hx, if_neg (by simp), hx]
    simp only [Int.toNat_natCast, show Int.toNat 0 = 0 from rfl, List.drop_zero, take_i, drop_i, clrs_i, len_i, List.length_nil, List.length_append, List.length_take, List.length_drop, List.length_singleton, rws_ins2, rws_i]
    by_cases c2 : x = n
    · subst c2
      rw [beq_self_eq_true, cnd_tt, ifA_pos (by omega), if_pos rfl]
    · rw [show (x == n) = false from beq_eq_false_iff_ne.2 c2, cnd_ff, ifA_pos (by omega), ifA_pos (by omega), ifA_pos (by omega), ifA_pos (by omega), ifA_pos (by omega), if_neg (by simp [c2])]
theorem iinserted_v (l : List Int) (n : Int) (h : Sm l) (hp : l.Pairwise (· < ·)) : S_iinserted l n = some (ins l n) := by
  have h' := h
  unfold Sm at h'
  have hk := low_le l n
  unfold S_iinserted
  simp only [rws_i, bsearch_v l n h hp, slices_Clone_int_int_v l h, bnd_some, toUss_i]
  rw [ifA_pos (by simp)]
  unfold S_slices_Insert_int_int insS ins
  rw [ifA_pos (by simp; omega), Int.toNat_natCast]
  rfl
theorem goT_spec {l : List Path} {ids : List Int} : ∀ {r : List Int} {k : Nat}, goT l ids k r = true → ∀ i x, r[i]? = some x → ¬ findPath l x < 0 ∧ prevOk ids (k + i) x = true
  | [], k, h, i, x, hx => by cases hx
  | y :: r, k, h, i, x, hx => by
    unfold goT at h
    simp only [Bool.and_eq_true, Bool.not_eq_true', decide_eq_false_iff_not] at h
    cases i with
    | zero => cases hx; exact ⟨h.1.1.1, h.1.1.2⟩
    | succ i =>
      have := goT_spec h.2 i x hx
      rwa [show k + 1 + i = k + (i + 1) by omega] at this
theorem together_at {l : List Path} {a : List Int} (h : together l a = true) : ∀ (i : Nat) (x : Int), a[i]? = some x → ¬ findPath l x < 0 ∧ prevOk a i x = true := fun i x hx => by
  unfold together at h
  rw [Bool.and_eq_true] at h
  simpa using goT_spec h.1 i x hx
theorem together_next {l : List Path} {a : List Int} (h : together l a = true) {i : Nat} {x y : Int} (hx : a[i]? = some x) (hy : a[i + 1]? = some y) : x < y := by
  have := (together_at h (i + 1) y hy).2
  unfold prevOk at this
  rw [if_neg (by omega), Nat.add_sub_cancel, hx] at this
  simpa using this
theorem together_lt {l : List Path} {a : List Int} (h : together l a = true) : ∀ (d i : Nat) (x y : Int), a[i]? = some x → a[i + d + 1]? = some y → x < y
  | 0, i, x, y, hx, hy => together_next h hx hy
  | d + 1, i, x, y, hx, hy => by
    have hl : i + (d + 1) + 1 < a.length := (List.getElem?_eq_some_iff.1 hy).1
    have hz : a[i + d + 1]? = some a[i + d + 1] := List.getElem?_eq_getElem (by omega)
    have h1 := together_lt h d i x _ hx hz
    have h2 := together_next h hz (by rw [show i + d + 1 + 1 = i + (d + 1) + 1 by omega]; exact hy)
    omega
theorem together_sorted {l : List Path} {a : List Int} (h : together l a = true) : a.Pairwise (· < ·) := by
  rw [List.pairwise_iff_getElem]
  intro i j hi hj hij
  exact together_lt h (j - i - 1) i _ _ (List.getElem?_eq_getElem hi) (by rw [show i + (j - i - 1) + 1 = j by omega]; exact List.getElem?_eq_getElem hj)
theorem together_len {l : List Path} {a : List Int} (h : together l a = true) : a.length ≤ 20 := by
  have ha := together_are h
  have ge : ∀ (i : Nat) (x : Int), a[i]? = some x → (i : Int) + 1 ≤ x := fun i => by
    induction i with
    | zero =>
      intro x hx
      have := are_ids ha (together_at h 0 x hx).1
      omega
    | succ i ih =>
      intro x hx
      have hl := (List.getElem?_eq_some_iff.1 hx).1
      have hz : a[i]? = some a[i] := List.getElem?_eq_getElem (by omega)
      have h1 := ih _ hz
      have h2 := together_next h hz hx
      omega
  rcases Nat.eq_zero_or_pos a.length with h0 | h0
  · omega
  · have hz : a[a.length - 1]? = some a[a.length - 1] := List.getElem?_eq_getElem (by omega)
    have h1 := ge _ _ hz
    have h2 := are_ids ha (together_at h _ _ hz).1
    omega
theorem together_sm {l : List Path} {a : List Int} (h : together l a = true) : Sm a := by
  have := together_len h
  unfold Sm
  omega
theorem has_low {l : List Int} (hp : l.Pairwise (· < ·)) {n : Int} : has l n = true ↔ l[low l n]? = some n := by
  unfold has
  rw [List.any_eq_true]
  constructor
  · rintro ⟨x, hx, hxn⟩
    have hxn : x = n := by simpa using hxn
    subst hxn
    obtain ⟨i, hi⟩ := List.getElem?_of_mem hx
    rcases Nat.lt_trichotomy i (low l x) with h | h | h
    · have := low_lt h hi; omega
    · rw [← h]; exact hi
    · have hl := (List.getElem?_eq_some_iff.1 hi).1
      have hz : l[low l x]? = some l[low l x] := List.getElem?_eq_getElem (by omega)
      have h1 := low_at hz
      have h2 := List.pairwise_iff_getElem.1 hp (low l x) i (by omega) hl h
      have h3 := (List.getElem?_eq_some_iff.1 hi).2
      omega
  · intro h
    exact ⟨n, List.mem_of_getElem? h, by simp⟩
/-- one path more, if it may be -/
def more (l : List Path) (a : List Int) (p : Path) : List Int := if together l (putI a p.id) = true then putI a p.id else a
def addToStage (l : List Path) (ids : List Int) : List Int := if together l ids = true then l.foldl (more l) ids else ids
theorem more_together {l : List Path} {a : List Int} {p : Path} (h : together l a = true) : together l (more l a p) = true := by
  unfold more
  split
  · assumption
  · exact h
theorem putI_sm {l : List Path} {a : List Int} (h : together l a = true) (n : Int) : Sm (putI a n) := by
  have := together_len h
  unfold putI
  split
  · exact together_sm h
  · unfold Sm
    rw [ins_len]
    omega
theorem putI_has {l : List Path} {a : List Int} (h : together l a = true) {n : Int} (hn : has a n = true) : putI a n = a := by
  unfold putI
  rw [if_pos ((has_low (together_sorted h)).1 hn)]
theorem putI_not {l : List Path} {a : List Int} (h : together l a = true) {n : Int} (hn : has a n = false) : putI a n = ins a n := by
  unfold putI
  rw [if_neg (fun e => by rw [(has_low (together_sorted h)).2 e] at hn; cases hn)]
theorem fold_together {l : List Path} : ∀ {r : List Path} {a : List Int}, together l a = true → together l (r.foldl (more l) a) = true
  | [], a, h => h
  | p :: r, a, h => by
    rw [List.foldl_cons]
    exact fold_together (more_together h)
theorem addToStage_sm {l : List Path} {ids : List Int} (h : Sm ids) : Sm (addToStage l ids) := by
  unfold addToStage
  split
  · rename_i hc; exact together_sm (fold_together hc)
  · exact h
theorem sAddToStage_v (l : List Path) (ids : List Int) (hl : Sm l) (hi : Sm ids) : S_sAddToStage l ids = some (addToStage l ids) := by
  have hl' := hl
  have hi' := hi
  unfold Sm at hl' hi'
  unfold S_sAddToStage
  simp only [rws_path, rws_i, len_path, len_i, geti_path, clrs_i]
  rw [ifA_pos (by simp; omega)]
  refine (iter_listJ l (by omega) (fun k (a : List Int) => (l, ids, a, (k : Int))) ids (fun _ a => (together l ids = true → together l a = true) ∧ (together l ids = false → a = ids)) ⟨fun h => h, fun _ => rfl⟩ (fun r _ a => some (if together l ids = true then r.foldl (more l) a else ids)) rfl ?_ ?_).trans ?_
  · intro rec a hJ
    rw [show decide (((l.length : Nat) : Int) < ((l.length : Nat) : Int)) = false from decide_eq_false (by omega), cnd_ff]
    cases hc : together l ids with
    | true => simp
    | false => simp [hJ.2 hc]
  · intro rec k p a hJ hx hk hr
    simp only [Int.natCast_succ] at hr
    simp only [show decide (((k : Nat) : Int) < ((l.length : Nat) : Int)) = true from decide_eq_true (by omega), cnd_tt, sIsTogether_v l ids hl hi, bnd_some, getZ_at hx, W_n1 (show k ≤ 9223372036854775806 by omega)]
    cases hc : together l ids with
    | false => simp [hJ.2 hc]
    | true =>
      have ha := hJ.1 hc
      have e := hr (more l a p) ⟨fun _ => more_together ha, fun h => by rw [hc] at h; cases h⟩
      rw [hc, if_pos rfl] at e
      simp only [cnd_tt, sl6Put_v a p.id (together_sm ha), bnd_some, sIsTogether_v l _ hl (putI_sm ha p.id), if_true, List.foldl_cons]
      unfold more at e ⊢
      cases hd : together l (putI a p.id) <;> simp [hd] at e ⊢ <;> exact e
  · rfl
theorem iAddToStage_v (l : List Path) (ids : List Int) (hl : Sm l) (hi : Sm ids) : S_iAddToStage l ids = some (addToStage l ids) := by
  have hl' := hl
  unfold Sm at hl'
  unfold S_iAddToStage addToStage
  simp only [rws_path, rws_i, len_path, len_i, geti_path, slices_Clone_int_int_v ids hi, iIsTogether_v l ids hl hi, bnd_some]
  cases hc : together l ids with
  | false => simp
  | true =>
  simp only [Bool.not_true, cnd_ff, if_true]
  refine (iter_listJ l (by omega) (fun k (a : List Int) => (l, a, l, (l.length : Int), (k : Int))) ids (fun _ a => together l a = true) hc (fun r _ a => some (r.foldl (more l) a)) rfl ?_ ?_).trans rfl
  · intro rec a hJ
    rw [show decide (((l.length : Nat) : Int) < ((l.length : Nat) : Int)) = false from decide_eq_false (by omega), cnd_ff]
    rfl
  · intro rec k p a ha hx hk hr
    simp only [Int.natCast_succ] at hr
    have e := hr (more l a p) (more_together ha)
    simp only [show decide (((k : Nat) : Int) < ((l.length : Nat) : Int)) = true from decide_eq_true (by omega), cnd_tt, slices_Contains_int_int_v a _ (together_sm ha), bnd_some, getZ_at hx, W_n1 (show k ≤ 9223372036854775806 by omega), List.foldl_cons]
    unfold more at e ⊢
    cases hh : has a p.id with
    | true =>
      have hp := putI_has ha hh
      rw [hp, ha, if_pos rfl] at e
      rw [cnd_tt, hp, ha, if_pos rfl]
      exact e
    | false =>
      have hp := putI_not ha hh
      have hs := putI_sm ha p.id
      rw [hp] at e hs ⊢
      simp only [cnd_ff, iinserted_v a p.id (together_sm ha) (together_sorted ha), bnd_some, iIsTogether_v l _ hl hs]
      cases hd : together l (ins a p.id) <;> simp [hd] at e ⊢ <;> exact e
end Go.Sh
