/- What the functions of the first laws compute, second part. -/
import Derived.Test.YtdeoffkhnkdhmaaP1
set_option linter.all false
namespace Go.Sh
open Go.Fx

/-! waits -/
def lwG : List Want → Nat → Int → Option Int
  | [], _, n => some n
  | x :: xs, k, n => if k = 0 ∨ n < x.wait then lwG xs (k + 1) x.wait else lwG xs (k + 1) n
def longestWait : List Want → Int
  | [] => 0
  | x :: xs => xs.foldl (fun m y => if m < y.wait then y.wait else m) x.wait
theorem lwG_eq : ∀ (l : List Want) (k : Nat) (n : Int), 0 < k → lwG l k n = some (l.foldl (fun m y => if m < y.wait then y.wait else m) n)
  | [], _, _, _ => rfl
  | x :: xs, k, n, h => by
    simp only [lwG, List.foldl_cons]
    split <;> rw [lwG_eq xs (k + 1) _ (by omega)] <;> congr 2 <;> split <;> simp_all <;> omega
theorem sLongestWait_v (w : List Want) (h : Sm w) : S_sLongestWait w = some (longestWait w) := by
  unfold Sm at h
  unfold S_sLongestWait
  simp
  refine (iter_list0 w (by omega) (fun k n => (w, n, (k : Int))) 0 lwG rfl ?_ ?_).trans ?_
  · intro rec acc
    simp [lwG]
  · intro rec k x acc hx hk hr
    simp only [Int.natCast_succ] at hr
    simp [hk, getZ_at hx, W_n1 (show k ≤ 9223372036854775806 by omega), hr, lwG, cnd_if]
    by_cases h0 : k = 0 <;> by_cases h1 : acc < x.wait <;> simp [h0, h1] <;> first | exact hr _ | (subst h0; simpa using hr _)
  · cases w with
    | nil => rfl
    | cons x xs => simp only [lwG, longestWait, true_or, if_true]; exact lwG_eq xs 1 _ (by omega)
theorem iLongestWait_v (w : List Want) (h : Sm w) : S_iLongestWait w = some (longestWait w) := by
  unfold Sm at h
  unfold S_iLongestWait
  simp only [rws_want, geti_want, len_want]
  cases w with
  | nil => rfl
  | cons x xs =>
    rw [show (((x :: xs).length : Int) == 0) = false by simp; omega, cnd_ff, getZ_zero]
    refine (iter_list0 (x :: xs) (by omega) (fun k n => (n, x :: xs, ((x :: xs).length : Int), (k : Int))) x.wait (fun l _ n => some (l.foldl (fun m y => if m < y.wait then y.wait else m) n)) rfl ?_ ?_).trans ?_
    rotate_left 2
    · simp [longestWait]
    · intro rec acc
      simp
    · intro rec k y acc hx hk hr
      simp only [lt_dec hk, cnd_tt, getZ_at hx, W_nat (show k ≤ 9223372036854775806 by omega), hr, List.foldl_cons]

/-! the longest clearing -/
def clearOf (p : Path) : Int := if isPath p then (if p.kind = 1 then 2 else if p.kind = 2 then 5 else 3) else 0
theorem kind_of {p : Path} (h : isPath p = true) : p.kind = 1 ∨ p.kind = 2 ∨ p.kind = 3 := by
  simp [isPath, inR] at h
  omega
theorem sClearOf_v (p : Path) : S_sClearOf p = some (clearOf p) := by
  unfold S_sClearOf clearOf
  rw [sIsPath_v, bnd_some]
  cases h : isPath p with
  | false => rfl
  | true => rcases kind_of h with e | e | e <;> rw [e] <;> rfl
theorem iClearOf_v (p : Path) : S_iClearOf p = some (clearOf p) := by
  unfold S_iClearOf clearOf
  rw [iIsPath_v, bnd_some]
  cases h : isPath p with
  | false => rfl
  | true => rcases kind_of h with e | e | e <;> rw [e] <;> rfl
def longestClear (l : List Path) : Int := if arePaths l then l.foldl (fun n p => if n < clearOf p then clearOf p else n) 0 else 0
theorem sMax_v (a b : Int) : S_sMax a b = some (if a < b then b else a) := by
  unfold S_sMax
  rw [cnd_if]
  split <;> simp_all <;> omega
theorem sLongestClear_v (l : List Path) (h : Sm l) : S_sLongestClear l = some (longestClear l) := by
  have h' := h
  unfold Sm at h
  unfold S_sLongestClear longestClear
  simp
  refine (iter_list0 l (by omega) (fun k n => (l, n, (k : Int))) 0 (fun s _ n => some (if arePaths l then s.foldl (fun n p => if n < clearOf p then clearOf p else n) n else n)) rfl ?_ ?_).trans rfl
  · intro rec n
    simp
  · intro rec k x n hx hk hr
    simp only [Int.natCast_succ] at hr
    simp [hk, getZ_at hx, sArePaths_v l h', sClearOf_v, sMax_v, W_n1 (show k ≤ 9223372036854775806 by omega), hr]
    cases arePaths l <;> simp
theorem iLongestClear_v (l : List Path) (h : Sm l) : S_iLongestClear l = some (longestClear l) := by
  have h' := h
  unfold Sm at h
  unfold S_iLongestClear longestClear
  simp [iArePaths_v l h']
  cases arePaths l with
  | false => rfl
  | true =>
    simp
    refine (iter_list0 l (by omega) (fun k n => (n, l, (l.length : Int), (k : Int))) 0 (fun s _ n => some (s.foldl (fun n p => if n < clearOf p then clearOf p else n) n)) rfl ?_ ?_).trans rfl
    · intro rec n
      simp
    · intro rec k x n hx hk hr
      simp only [Int.natCast_succ] at hr
      simp [hk, getZ_at hx, iClearOf_v, W_n1 (show k ≤ 9223372036854775806 by omega), hr]
def waitBound (l : List Path) : Int := W (W ((l.length : Int) + 1) * W (W (W (60 + longestClear l) + 20) + 1))
theorem sWaitBound_v (l : List Path) (h : Sm l) : S_sWaitBound l = some (waitBound l) := by
  unfold S_sWaitBound waitBound
  simp [sLongestClear_v l h]
theorem iWaitBound_v (l : List Path) (h : Sm l) : S_iWaitBound l = some (waitBound l) := by
  unfold S_iWaitBound waitBound
  simp [iLongestClear_v l h]

/-! the busiest arm -/
def ends (l : List Path) (a : Nat) : Int := cnt (fun p => p.src == (a : Int) || p.dst == (a : Int)) l
def busy (l : List Path) : List Nat → Int × Int → Int
  | [], b => b.1
  | a :: r, b => if b.2 < ends l a then busy l r (a, ends l a) else busy l r b
def busiestArm (l : List Path) : Int := if arePaths l then busy l (List.range 4) (-1, 0) else -1
theorem range_at {n k x : Nat} (h : (List.range n)[k]? = some x) : x = k := by
  rw [List.getElem?_range (by
    have := (List.getElem?_eq_some_iff.1 h).1
    simpa using this)] at h
  exact (Option.some.inj h).symm
theorem iBusiestArm_v (l : List Path) (h : Sm l) : S_iBusiestArm l = some (busiestArm l) := by
  have h' := h
  unfold Sm at h
  unfold S_iBusiestArm busiestArm
  simp [iArePaths_v l h']
  cases arePaths l with
  | false => rfl
  | true =>
    simp
    refine (iter_list0 (List.range 4) (by simp) (fun k b => (l, b.1, b.2, (k : Int))) (-1, 0) (fun s _ b => some (busy l s b)) rfl ?_ ?_).trans rfl
    · intro rec b
      simp [busy]
    · intro rec k x b hx hk hr
      have hk4 : (k : Int) < 4 := by simp at hk; omega
      cases range_at hx
      simp only [hk4, decide_true, cnd_tt]
      refine (count_loop l (fun p => p.src == (k : Int) || p.dst == (k : Int)) (by omega) (fun j n => (l, b.1, b.2, (k : Int), n, (k : Int), l, (l.length : Int), (j : Int))) (fun n => if b.2 < n then rec (l, (k : Int), n, W ((k : Int) + 1)) else rec (l, b.1, b.2, W ((k : Int) + 1))) rfl ?_ ?_).trans ?_
      · intro rec n; simp [cnd_if]
      · intro rec j x n hx hj hn
        simp [hj, getZ_at hx, W_n1 (show j ≤ 9223372036854775806 by omega), W_n1 (show n ≤ 9223372036854775806 by omega), cnd_if]
        by_cases e1 : x.src = (k : Int) <;> by_cases e2 : x.dst = (k : Int) <;> simp [e1, e2]
      · rw [W_nat (by omega)]
        have h1 := hr (b.1, b.2)
        have h2 := hr ((k : Int), ends l k)
        simp only [List.drop_succ_cons] at h1 h2
        unfold busy
        show (if b.2 < ends l k then _ else _) = _
        split
        · exact h2
        · exact h1
theorem sBusiestArm_v (l : List Path) (h : Sm l) : S_sBusiestArm l = some (busiestArm l) := by
  have h' := h
  unfold Sm at h
  unfold S_sBusiestArm busiestArm
  simp [sArePaths_v l h']
  refine (iter_listJ (List.range 4) (by simp) (fun k (b : Int × Int) => (l, b.1, b.2, (k : Int))) (-1, 0) (fun _ b => 0 ≤ b.2) (by simp) (fun s _ b => some (if arePaths l then busy l s b else b.1)) rfl ?_ ?_).trans ?_
  · intro rec b _
    simp [busy]
  · intro rec k x b hJ hx hk hr
    have hk4 : (k : Int) < 4 := by simp at hk; omega
    cases range_at hx
    simp only [hk4, decide_true, cnd_tt]
    cases ha : arePaths l with
    | false =>
      have h1 := hr (b.1, b.2) hJ
      simp only [ha] at h1
      refine (iter_list0 l (by omega) (fun j (_ : Unit) => (l, b.1, b.2, (k : Int), (0 : Int), (j : Int))) () (fun _ _ _ => if b.2 < 0 then rec (l, (k : Int), 0, W ((k : Int) + 1)) else rec (l, b.1, b.2, W ((k : Int) + 1))) rfl ?_ ?_).trans ?_
      · intro rec _; simp [cnd_if]
      · intro rec j x _ hx hj _
        simp [hj, cnd_if, sArePaths_v l h', ha]
      · rw [if_neg (by omega), W_nat (by omega)]
        simpa using h1
    | true =>
      refine (count_loop l (fun p => p.src == (k : Int) || p.dst == (k : Int)) (by omega) (fun j n => (l, b.1, b.2, (k : Int), n, (j : Int))) (fun n => if b.2 < n then rec (l, (k : Int), n, W ((k : Int) + 1)) else rec (l, b.1, b.2, W ((k : Int) + 1))) rfl ?_ ?_).trans ?_
      · intro rec n; simp [cnd_if]
      · intro rec j x n hx hj hn
        simp [hj, getZ_at hx, sArePaths_v l h', ha, W_n1 (show j ≤ 9223372036854775806 by omega), W_n1 (show n ≤ 9223372036854775806 by omega), cnd_if]
        by_cases e1 : x.src = (k : Int) <;> by_cases e2 : x.dst = (k : Int) <;> simp [e1, e2]
      · rw [W_nat (by omega)]
        have h1 := hr (b.1, b.2) hJ
        have h2 := hr ((k : Int), ends l k) (Int.natCast_nonneg _)
        simp only [List.drop_succ_cons, ha, if_true] at h1 h2
        unfold busy
        show (if b.2 < ends l k then _ else _) = _
        rw [if_pos rfl]
        split
        · exact h2
        · exact h1
  · cases arePaths l <;> rfl
end Go.Sh
