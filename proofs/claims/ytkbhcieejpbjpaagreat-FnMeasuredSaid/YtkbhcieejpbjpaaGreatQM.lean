/- Plain facts: what the functions compute. -/
import Derived.Test.YtkbhcieejpbjpaaGreatHpM
set_option linter.all false
namespace Go.Sh
open Go.Fx
theorem sl1In_v (x a b : Int) : S_sl1In x a b = some (decide (a ≤ x) && decide (x ≤ b)) := by
  unfold S_sl1In
  by_cases h : a ≤ x <;> simp [h, cnd_if]
theorem iInRange_v (x a b : Int) : S_iInRange x a b = some (decide (a ≤ x) && decide (x ≤ b)) := by
  unfold S_iInRange
  by_cases h : a ≤ x <;> simp [h, cnd_if]
theorem W_n1 {n : Nat} (h : n ≤ 9223372036854775806) : W ((n : Int) + 1) = (n : Int) + 1 := W_id (by omega) (by omega)
theorem iCountBroken_v (l : List Lamp) (h : Sm l) : S_iCountBroken l = some (cnt (fun x => x.broken) l) := by
  unfold Sm at h
  unfold S_iCountBroken
  simp
  refine count_loop l (fun x => x.broken) (by omega) (fun k n => (n, l, (l.length : Int), (k : Int))) some rfl ?_ ?_
  · intro rec n; simp
  · intro rec k x n hx hk hn
    simp [hk, getZ_at hx, W_n1 (show k ≤ 9223372036854775806 by omega), W_n1 (show n ≤ 9223372036854775806 by omega), cnd_if]
theorem iCountKind_v (l : List Path) (c : Int) (h : Sm l) : S_iCountKind l c = some (cnt (fun x => x.kind == c) l) := by
  unfold Sm at h
  unfold S_iCountKind
  simp
  refine count_loop l (fun x => x.kind == c) (by omega) (fun k n => (c, n, l, (l.length : Int), (k : Int))) some rfl ?_ ?_
  · intro rec n; simp
  · intro rec k x n hx hk hn
    simp [hk, getZ_at hx, W_n1 (show k ≤ 9223372036854775806 by omega), W_n1 (show n ≤ 9223372036854775806 by omega), cnd_if]
def inR (n a b : Int) : Bool := decide (a ≤ n) && decide (n ≤ b)
def isPath (p : Path) : Bool := inR p.id 1 20 && inR p.kind 1 3 && inR p.src 0 3 && inR p.dst 0 3 && ((p.src == p.dst) == (p.kind == 2))
theorem sIsPath_v (p : Path) : S_sIsPath p = some (isPath p) := by
  unfold S_sIsPath isPath inR
  simp only [sl1In_v, bnd_some]
  cases (decide (1 ≤ p.id) && decide (p.id ≤ 20)) <;> cases (decide (1 ≤ p.kind) && decide (p.kind ≤ 3)) <;> cases (decide (0 ≤ p.src) && decide (p.src ≤ 3)) <;> cases (decide (0 ≤ p.dst) && decide (p.dst ≤ 3)) <;> simp
theorem iIsPath_v (p : Path) : S_iIsPath p = some (isPath p) := by
  unfold S_iIsPath isPath inR
  simp only [iInRange_v, bnd_some]
  cases (decide (1 ≤ p.id) && decide (p.id ≤ 20)) <;> cases (decide (1 ≤ p.kind) && decide (p.kind ≤ 3)) <;> cases (decide (0 ≤ p.src) && decide (p.src ≤ 3)) <;> cases (decide (0 ≤ p.dst) && decide (p.dst ≤ 3)) <;> simp
def goP : Option Int → List Path → Bool
  | _, [] => true
  | none, p :: r => isPath p && goP (some p.id) r
  | some i, p :: r => isPath p && decide (i < p.id) && goP (some p.id) r
def arePaths (l : List Path) : Bool := decide (l.length ≤ 12) && goP none l
def prevId (l : List Path) (k : Nat) : Option Int := if k = 0 then none else (l[k - 1]?).map (·.id)
theorem prevId_succ {l : List Path} {k : Nat} {x : Path} (h : l[k]? = some x) : prevId l (k + 1) = some x.id := by
  unfold prevId
  simp [h]
theorem sArePaths_v (l : List Path) (h : Sm l) : S_sArePaths l = some (arePaths l) := by
  unfold Sm at h
  unfold S_sArePaths
  simp
  refine (iter_list0 l (by omega) (fun k (_ : Unit) => (l, (k : Int))) () (fun s k _ => some (goP (prevId l k) s && decide (l.length ≤ 12))) rfl ?_ ?_).trans ?_
  · intro rec _
    simp [goP]
    omega
  · intro rec k x _ hx hk hr
    have hr' := hr ()
    simp [hk, getZ_at hx, sIsPath_v, W_n1 (show k ≤ 9223372036854775806 by omega)] at hr' ⊢
    cases hp : isPath x with
    | false => cases hq : prevId l k <;> simp [goP, hp]
    | true =>
      simp
      by_cases h0 : k = 0
      · subst h0
        simp [prevId, hx] at hr'
        simp [hr', prevId, goP, hp, hx]
      · have hz : l[k - 1]? = some l[k - 1] := List.getElem?_eq_getElem (by omega)
        have hk1 : W ((k : Int) - 1) = ((k - 1 : Nat) : Int) := by rw [W_id (by omega) (by omega)]; omega
        simp [show 0 < k by omega, hk1, getZ_at hz, hr', prevId_succ hx]
        rw [show prevId l k = some (l[k - 1]).id by unfold prevId; simp [h0, hz]]
        simp [goP, hp, cnd_if]
        by_cases h1 : x.id ≤ (l[k - 1]).id
        · simp [h1, show ¬ ((l[k - 1]).id < x.id) by omega]
        · simp [h1, show (l[k - 1]).id < x.id by omega]
  · simp [prevId, arePaths, Bool.and_comm]
theorem iArePaths_v (l : List Path) (h : Sm l) : S_iArePaths l = some (arePaths l) := by
  unfold Sm at h
  unfold S_iArePaths
  simp
  by_cases h12 : (12 : Int) < (l.length : Int)
  · simp [h12, arePaths, show ¬ (l.length ≤ 12) by omega]
  simp [h12]
  refine (iter_list0 l (by omega) (fun k (_ : Unit) => (l, l, (l.length : Int), (k : Int))) () (fun s k _ => some (goP (prevId l k) s)) rfl ?_ ?_).trans ?_
  · intro rec _
    simp [goP]
  · intro rec k x _ hx hk hr
    have hr' := hr ()
    simp [hk, getZ_at hx, iIsPath_v, W_n1 (show k ≤ 9223372036854775806 by omega)] at hr' ⊢
    cases hp : isPath x with
    | false => cases hq : prevId l k <;> simp [goP, hp]
    | true =>
      simp
      by_cases h0 : k = 0
      · subst h0
        simp [prevId, hx] at hr'
        simp [hr', prevId, goP, hp, hx]
      · have hz : l[k - 1]? = some l[k - 1] := List.getElem?_eq_getElem (by omega)
        have hk1 : W ((k : Int) - 1) = ((k - 1 : Nat) : Int) := by rw [W_id (by omega) (by omega)]; omega
        simp [show 0 < k by omega, hk1, getZ_at hz, hr', prevId_succ hx]
        rw [show prevId l k = some (l[k - 1]).id by unfold prevId; simp [h0, hz]]
        simp [goP, hp, cnd_if]
        by_cases h1 : x.id ≤ (l[k - 1]).id
        · simp [h1, show ¬ ((l[k - 1]).id < x.id) by omega]
        · simp [h1, show (l[k - 1]).id < x.id by omega]
  · simp [prevId, arePaths, show l.length ≤ 12 by omega]
def longestWait : List Want → Int
  | [] => 0
  | x :: xs => xs.foldl (fun m y => if m < y.wait then y.wait else m) x.wait
theorem iLongestWait_v (w : List Want) (h : Sm w) : S_iLongestWait w = some (longestWait w) := by
  unfold Sm at h
  unfold S_iLongestWait
  simp only [rws_want, geti_want, len_want]
  cases w with
  | nil => rfl
  | cons x xs =>
    rw [show (((x :: xs).length : Int) == 0) = false by simp; omega, cnd_ff, getZ_zero]
    refine (iter_list0 (x :: xs) (by omega) (fun k n => (n, x :: xs, ((x :: xs).length : Int), (k : Int))) x.wait (fun l _ n => some (l.foldl (fun m y => if m < y.wait then y.wait else m) n)) rfl ?_ ?_).trans ?_
    rotate_left 2
    · simp [longestWait]
    · intro rec acc
      simp
    · intro rec k y acc hx hk hr
      simp only [lt_dec hk, cnd_tt, getZ_at hx, W_nat (show k ≤ 9223372036854775806 by omega), hr, List.foldl_cons]
def clearOf (p : Path) : Int := if isPath p then (if p.kind = 1 then 2 else if p.kind = 2 then 5 else 3) else 0
theorem kind_of {p : Path} (h : isPath p = true) : p.kind = 1 ∨ p.kind = 2 ∨ p.kind = 3 := by
  simp [isPath, inR] at h
  omega
theorem sClearOf_v (p : Path) : S_sClearOf p = some (clearOf p) := by
  unfold S_sClearOf clearOf
  rw [sIsPath_v, bnd_some]
  cases h : isPath p with
  | false => rfl
  | true => rcases kind_of h with e | e | e <;> rw [e] <;> rfl
theorem sMax_v (a b : Int) : S_sMax a b = some (if a < b then b else a) := by
  unfold S_sMax
  rw [cnd_if]
  split <;> simp_all <;> omega
def ends (l : List Path) (a : Nat) : Int := cnt (fun p => p.src == (a : Int) || p.dst == (a : Int)) l
def busy (l : List Path) : List Nat → Int × Int → Int
  | [], b => b.1
  | a :: r, b => if b.2 < ends l a then busy l r (a, ends l a) else busy l r b
def busiestArm (l : List Path) : Int := if arePaths l then busy l (List.range 4) (-1, 0) else -1
theorem range_at {n k x : Nat} (h : (List.range n)[k]? = some x) : x = k := by
  rw [List.getElem?_range (by
    have := (List.getElem?_eq_some_iff.1 h).1
    simpa using this)] at h
  exact (Option.some.inj h).symm
theorem iBusiestArm_v (l : List Path) (h : Sm l) : S_iBusiestArm l = some (busiestArm l) := by
  have h' := h
  unfold Sm at h
  unfold S_iBusiestArm busiestArm
  simp [iArePaths_v l h']
  cases arePaths l with
  | false => rfl
  | true =>
    simp
    refine (iter_list0 (List.range 4) (by simp) (fun k b => (l, b.1, b.2, (k : Int))) (-1, 0) (fun s _ b => some (busy l s b)) rfl ?_ ?_).trans rfl
    · intro rec b
      simp [busy]
    · intro rec k x b hx hk hr
      have hk4 : (k : Int) < 4 := by simp at hk; omega
      cases range_at hx
      simp only [hk4, decide_true, cnd_tt]
      refine (count_loop l (fun p => p.src == (k : Int) || p.dst == (k : Int)) (by omega) (fun j n => (l, b.1, b.2, (k : Int), n, (k : Int), l, (l.length : Int), (j : Int))) (fun n => if b.2 < n then rec (l, (k : Int), n, W ((k : Int) + 1)) else rec (l, b.1, b.2, W ((k : Int) + 1))) rfl ?_ ?_).trans ?_
      · intro rec n; simp [cnd_if]
      · intro rec j x n hx hj hn
        simp [hj, getZ_at hx, W_n1 (show j ≤ 9223372036854775806 by omega), W_n1 (show n ≤ 9223372036854775806 by omega), cnd_if]
        by_cases e1 : x.src = (k : Int) <;> by_cases e2 : x.dst = (k : Int) <;> simp [e1, e2]
      · rw [W_nat (by omega)]
        have h1 := hr (b.1, b.2)
        have h2 := hr ((k : Int), ends l k)
        simp only [List.drop_succ_cons] at h1 h2
        unfold busy
        show (if b.2 < ends l k then _ else _) = _
        split
        · exact h2
        · exact h1
theorem tmod_pos {a m : Int} (h : 0 ≤ a) : Int.tmod a m = a % m := Int.tmod_eq_emod_of_nonneg h
theorem sl1In_t {x a b : Int} (h : a ≤ x) (h' : x ≤ b) : S_sl1In x a b = some true := by rw [sl1In_v]; simp [h, h']
theorem iInRange_t {x a b : Int} (h : a ≤ x) (h' : x ≤ b) : S_iInRange x a b = some true := by rw [iInRange_v]; simp [h, h']
theorem tmod_cases (n : Int) {m : Int} (h : 0 < m) : (0 ≤ Int.tmod n m ∧ Int.tmod n m < m ∧ Int.tmod n m = n % m) ∨ (Int.tmod n m < 0 ∧ -m < Int.tmod n m ∧ Int.tmod n m + m = n % m) := by
  have h1 := Int.tmod_lt_of_pos n h
  have h2 := Int.lt_tmod_of_pos n h
  have h3 : n = m * Int.tdiv n m + Int.tmod n m := by have := Int.mul_tdiv_add_tmod n m; omega
  have h4 : n % m = Int.tmod n m % m := by
    conv => lhs; rw [h3]
    rw [Int.add_comm, Int.add_mul_emod_self_left]
  rcases (by omega : Int.tmod n m < 0 ∨ 0 ≤ Int.tmod n m) with hn | hp
  · right
    refine ⟨hn, h2, ?_⟩
    rw [h4, ← Int.add_emod_right, Int.emod_eq_of_lt (by omega) (by omega)]
  · left
    exact ⟨hp, h1, by rw [h4, Int.emod_eq_of_lt hp h1]⟩
theorem sMod_v (n m : Int) (h : 1 ≤ m) (h' : m ≤ 1000000000000) : S_sMod n m = some (n % m) := by
  unfold S_sMod
  rw [sl1In_t h h', bnd_some]
  rw [show (!true) = false from rfl, cnd_ff, ifA_pos (by omega), ifA_pos (by omega)]
  rcases tmod_cases n (show 0 < m by omega) with ⟨a, b, c⟩ | ⟨a, b, c⟩
  · rw [W_id (by omega) (by omega), tmod_pos (by omega), c, Int.add_emod_right, Int.emod_emod_of_dvd _ (Int.dvd_refl m)]
  · rw [W_id (by omega) (by omega), tmod_pos (by omega), c, Int.emod_emod_of_dvd _ (Int.dvd_refl m)]
theorem iMod_v (n m : Int) (h : 1 ≤ m) (h' : m ≤ 1000000000000) : S_iMod n m = some (n % m) := by
  unfold S_iMod
  rw [iInRange_t h h', bnd_some]
  rw [show (!true) = false from rfl, cnd_ff, ifA_pos (by omega), cnd_if]
  rcases tmod_cases n (show 0 < m by omega) with ⟨a, b, c⟩ | ⟨a, b, c⟩
  · rw [if_neg (by simp; omega), c]
  · rw [if_pos (by simp; omega), W_id (by omega) (by omega), c]
def mix (a v : Int) : Int := Int.tmod (W (W (W (a * 1000003) + v % 2147483647) + 13)) 2147483647
def hash (l : List Int) : Int := l.foldl mix 11
theorem ifold_v (a v : Int) : S_ifold a v = some (mix a v) := by
  unfold S_ifold mix
  rw [iMod_v _ _ (by decide) (by decide)]
  rfl
theorem sHash_v (l : List Int) (h : l.length ≤ 2097152) : S_sHash l = some (hash l) := by
  unfold S_sHash hash
  simp
  refine (iter_list0 l (by omega) (fun k n => (l, n, (k : Int))) 11 (fun s _ n => some (s.foldl mix n)) rfl ?_ ?_).trans rfl
  · intro rec n
    simp
  · intro rec k x n hx hk hr
    simp only [Int.natCast_succ] at hr
    simp [hk, getZ_at hx, sMod_v _ 2147483647, W_n1 (show k ≤ 9223372036854775806 by omega)]
    exact hr _
theorem iHash_v (l : List Int) (h : l.length ≤ 2097152) : S_iHash l = some (hash l) := by
  unfold S_iHash hash
  simp
  refine (iter_list0 l (by omega) (fun k n => (n, l, (l.length : Int), (k : Int))) 11 (fun s _ n => some (s.foldl mix n)) rfl ?_ ?_).trans rfl
  · intro rec n
    simp
  · intro rec k x n hx hk hr
    simp only [Int.natCast_succ] at hr
    simp [hk, getZ_at hx, ifold_v, W_n1 (show k ≤ 9223372036854775806 by omega)]
    exact hr _
def sealOf (b s : Int) (l : List Int) : Int := hash (b :: s :: l)
theorem sSealOf_v (b s : Int) (l : List Int) (h : Sm l) : S_sSealOf b s l = some (sealOf b s l) := by
  unfold Sm at h
  unfold S_sSealOf sealOf
  simp
  rw [ifA_pos (by omega), sHash_v _ (by simp; omega)]
  rfl
theorem iSealOf_v (b s : Int) (l : List Int) (h : Sm l) : S_iSealOf b s l = some (sealOf b s l) := by
  unfold Sm at h
  unfold S_iSealOf sealOf
  simp
  rw [ifA_pos (by omega), iHash_v _ (by simp; omega)]
  rfl
theorem sl1In_r (x a b : Int) : S_sl1In x a b = some (inR x a b) := sl1In_v x a b
theorem iInRange_r (x a b : Int) : S_iInRange x a b = some (inR x a b) := iInRange_v x a b
theorem all_loop {α V β : Type} (l : List α) (p : α → Bool) (hl : l.length ≤ 1099511627776) (st : Nat → V) (K no : Option β) {F : (V → Option β) → V → Option β} {v : V} (hv : v = st 0)
    (h0 : ∀ rec, F rec (st l.length) = K)
    (h1 : ∀ rec k x, l[k]? = some x → k < l.length → F rec (st k) = if p x = true then rec (st (k + 1)) else no) : iter F NN v = if l.all p = true then K else no := by
  refine (iter_list0 l (by omega) (fun k (_ : Unit) => st k) () (fun s _ _ => if s.all p = true then K else no) hv ?_ ?_).trans rfl
  · intro rec _
    rw [h0]; simp
  · intro rec k x _ hx hk hr
    rw [h1 rec k x hx hk, List.all_cons]
    cases p x with
    | true => simpa using hr ()
    | false => simp
theorem getZ0 {α β : Type} {l : List α} {x : α} (h : l[0]? = some x) (K : α → Option β) : getZ l 0 K = K x := getZ_at h K
def noteOk (b : Int) (n : Nat) (x : Note) : Bool := inR x.second 0 1000000 && decide (x.lights.length ≤ 12) && decide (x.lights.length = n) && decide (x.sig = sealOf b x.second x.lights) && x.lights.all (fun v => inR v 0 2)
def later (pv : Option Int) (s : Int) : Bool := match pv with | none => true | some p => decide (p < s)
def goR (n : Nat) : Int → Option Int → List Note → Bool
  | _, _, [] => true
  | b, pv, x :: r => noteOk b n x && later pv x.second && goR n x.sig (some x.second) r
def firstLen (l : List Note) : Nat := match l with | [] => 0 | x :: _ => x.lights.length
def isRecord (l : List Note) : Bool := decide (l.length ≤ 60) && goR (firstLen l) 0 none l
def prevSec (l : List Note) (k : Nat) : Option Int := if k = 0 then none else (l[k - 1]?).map (·.second)
theorem prevSec_succ {l : List Note} {k : Nat} {x : Note} (h : l[k]? = some x) : prevSec l (k + 1) = some x.second := by
  unfold prevSec
  simp [h]
theorem firstLen_at {l : List Note} {x : Note} (h : l[0]? = some x) : firstLen l = x.lights.length := by
  cases l with
  | nil => simp at h
  | cons y t => simp at h; rw [firstLen, h]
theorem mem_at {α : Type} {l : List α} {k : Nat} {x : α} (h : l[k]? = some x) : x ∈ l := List.mem_of_getElem? h
theorem sIsRecord_v (l : List Note) (h : Sm l ∧ ∀ y ∈ l, SmNote y) : S_sIsRecord l = some (isRecord l) := by
  obtain ⟨h, hs⟩ := h
  unfold Sm at h
  unfold S_sIsRecord
  simp
  refine (iter_list0 l (by omega) (fun k b => (l, b, (k : Int))) 0 (fun s k b => some (decide (l.length ≤ 60) && goR (firstLen l) b (prevSec l k) s)) rfl ?_ ?_).trans rfl
  · intro rec b
    simp [goR]
    omega
  · intro rec k x b hx hk hr
    simp only [Int.natCast_succ, prevSec_succ hx] at hr
    have hsx : Sm x.lights := hs x (mem_at hx)
    have hz : l[0]? = some l[0] := List.getElem?_eq_getElem (by omega)
    by_cases h60 : (l.length : Int) ≤ 60
    · have h60' : l.length ≤ 60 := by omega
      simp [hk, h60, h60', getZ_at hx, sSealOf_v b x.second x.lights hsx, sl1In_r, getZ0 hz, goR, noteOk, later, firstLen_at hz]
      cases inR x.second 0 1000000 with
      | false => simp
      | true =>
      simp
      generalize hI : iter (_ : (List Note × Int × Int × Int → Option Bool) → _ → Option Bool) NN (l, sealOf b x.second x.lights, (k : Int), (0 : Int)) = I
      have hI' : I = if x.lights.all (fun v => inR v 0 2) = true then some (goR l[0].lights.length (sealOf b x.second x.lights) (some x.second) (l.drop (k + 1))) else some false := by
        rw [← hI]
        refine all_loop x.lights (fun v => inR v 0 2) (by unfold Sm at hsx; omega) (fun j => (l, sealOf b x.second x.lights, (k : Int), (j : Int))) _ _ rfl ?_ ?_
        · intro rec'
          simp [getZ_at hx, W_n1 (show k ≤ 9223372036854775806 by omega), hr, h60', firstLen_at hz]
        · intro rec' j v hv hj
          have hj2 : j ≤ 9223372036854775806 := by unfold Sm at hsx; omega
          simp [getZ_at hx, getZ_at hv, hj, sl1In_r, W_n1 hj2]
          cases inR v 0 2 <;> simp
      rw [hI']
      clear hI' hI
      generalize x.lights.all (fun v => inR v 0 2) = A
      by_cases c1 : (12 : Int) < (x.lights.length : Int)
      · simp [c1, show ¬ x.lights.length ≤ 12 by omega]
      simp only [c1, decide_false, cnd_ff, show x.lights.length ≤ 12 by omega, decide_true, Bool.true_and]
      by_cases c2 : x.lights.length = l[0].lights.length
      · simp only [c2, bne_self_eq_false, cnd_ff, decide_true, Bool.true_and]
        by_cases c3 : x.sig = sealOf b x.second x.lights
        · simp only [← c3, bne_self_eq_false, cnd_ff, decide_true, Bool.true_and]
          by_cases h0 : k = 0
          · subst h0
            simp [prevSec]
            cases A <;> simp
          · have hz1 : l[k - 1]? = some l[k - 1] := List.getElem?_eq_getElem (by omega)
            have hk1 : W ((k : Int) - 1) = ((k - 1 : Nat) : Int) := by rw [W_id (by omega) (by omega)]; omega
            simp [show 0 < k by omega, hk1, getZ_at hz1]
            rw [show prevSec l k = some (l[k - 1]).second by unfold prevSec; simp [h0, hz1]]
            by_cases c4 : x.second ≤ l[k - 1].second
            · simp [c4, show ¬ l[k - 1].second < x.second by omega]
            · simp [c4, show l[k - 1].second < x.second by omega]
              cases A <;> simp
        · rw [show (x.sig != sealOf b x.second x.lights) = true by simpa using c3, cnd_tt]
          simp [c3]
      · rw [show ((x.lights.length : Int) != (l[0].lights.length : Int)) = true by simp; omega, cnd_tt]
        simp [c2]
    · have h60' : ¬ l.length ≤ 60 := by omega
      simp [hk, h60, h60']
theorem iIsRecord_v (l : List Note) (h : Sm l ∧ ∀ y ∈ l, SmNote y) : S_iIsRecord l = some (isRecord l) := by
  obtain ⟨h, hs⟩ := h
  unfold Sm at h
  unfold S_iIsRecord isRecord
  by_cases h60 : (60 : Int) < (l.length : Int)
  · have h60' : ¬ l.length ≤ 60 := by omega
    simp [h60, h60']
  have h60' : l.length ≤ 60 := by omega
  simp [h60, h60']
  refine (iter_list0 l (by omega) (fun k b => (l, b, l, (l.length : Int), (k : Int))) 0 (fun s k b => some (goR (firstLen l) b (prevSec l k) s)) rfl ?_ ?_).trans rfl
  · intro rec b
    simp [goR]
  · intro rec k x b hx hk hr
    simp only [Int.natCast_succ, prevSec_succ hx] at hr
    have hsx : Sm x.lights := hs x (mem_at hx)
    have hz : l[0]? = some l[0] := List.getElem?_eq_getElem (by omega)
    simp [hk, getZ_at hx, iSealOf_v b x.second x.lights hsx, iInRange_r, getZ0 hz, goR, noteOk, later, firstLen_at hz]
    cases inR x.second 0 1000000 with
    | false => simp
    | true =>
    simp
    generalize hI : iter (_ : ((List Note × List Note × Int × Int × List Int × Int × Int) × Note → Option Bool) → _ → Option Bool) NN ((l, l, (l.length : Int), (k : Int), x.lights, (x.lights.length : Int), (0 : Int)), x) = I
    have hI' : I = if x.lights.all (fun v => inR v 0 2) = true then some (goR l[0].lights.length x.sig (some x.second) (l.drop (k + 1))) else some false := by
      rw [← hI]
      refine all_loop x.lights (fun v => inR v 0 2) (by unfold Sm at hsx; omega) (fun j => ((l, l, (l.length : Int), (k : Int), x.lights, (x.lights.length : Int), (j : Int)), x)) _ _ rfl ?_ ?_
      · intro rec'
        simp [W_n1 (show k ≤ 9223372036854775806 by omega), hr, firstLen_at hz]
      · intro rec' j v hv hj
        have hj2 : j ≤ 9223372036854775806 := by unfold Sm at hsx; omega
        simp [getZ_at hv, hj, iInRange_r, W_n1 hj2]
        cases inR v 0 2 <;> simp
    rw [hI']
    clear hI' hI
    generalize x.lights.all (fun v => inR v 0 2) = A
    generalize hB : cnd (decide ((12 : Int) < (x.lights.length : Int))) (some false) _ = B
    have hB' : B = some ((decide (x.lights.length ≤ 12) && decide (x.lights.length = l[0].lights.length) && decide (x.sig = sealOf b x.second x.lights) && A) && goR l[0].lights.length x.sig (some x.second) (l.drop (k + 1))) := by
      rw [← hB]
      by_cases c1 : (12 : Int) < (x.lights.length : Int)
      · simp [c1, show ¬ x.lights.length ≤ 12 by omega]
      simp only [c1, decide_false, cnd_ff, show x.lights.length ≤ 12 by omega, decide_true, Bool.true_and]
      by_cases c2 : x.lights.length = l[0].lights.length
      · simp only [c2, bne_self_eq_false, cnd_ff, decide_true, Bool.true_and]
        by_cases c3 : x.sig = sealOf b x.second x.lights
        · simp only [← c3, bne_self_eq_false, cnd_ff, decide_true, Bool.true_and]
          cases A <;> simp
        · rw [show (x.sig != sealOf b x.second x.lights) = true by simpa using c3, cnd_tt]
          simp [c3]
      · rw [show ((x.lights.length : Int) != (l[0].lights.length : Int)) = true by simp; omega, cnd_tt]
        simp [c2]
    rw [hB']
    by_cases h0 : k = 0
    · subst h0
      simp [prevSec]
    · have hz1 : l[k - 1]? = some l[k - 1] := List.getElem?_eq_getElem (by omega)
      have hk1 : W ((k : Int) - 1) = ((k - 1 : Nat) : Int) := by rw [W_id (by omega) (by omega)]; omega
      simp [show 0 < k by omega, hk1, getZ_at hz1]
      rw [show prevSec l k = some (l[k - 1]).second by unfold prevSec; simp [h0, hz1]]
      by_cases c4 : x.second ≤ l[k - 1].second
      · simp [c4, show ¬ l[k - 1].second < x.second by omega]
      · simp [c4, show l[k - 1].second < x.second by omega]
theorem goR_len {n : Nat} : ∀ {l : List Note} {b : Int} {pv : Option Int}, goR n b pv l = true → ∀ x ∈ l, x.lights.length = n ∧ 0 ≤ x.second ∧ x.second ≤ 1000000 ∧ ∀ v ∈ x.lights, 0 ≤ v
  | [], _, _, _ => fun x hx => by cases hx
  | y :: l, b, pv, h => fun x hx => by
    simp [goR, noteOk, inR] at h
    rcases List.mem_cons.1 hx with rfl | hx
    · exact ⟨h.1.1.1.1.2, by omega, by omega, fun v hv => (h.1.1.2 v hv).1⟩
    · exact goR_len h.2 x hx
theorem isRecord_len {l : List Note} (h : isRecord l = true) : ∀ x ∈ l, x.lights.length = firstLen l ∧ 0 ≤ x.second ∧ x.second ≤ 1000000 ∧ ∀ v ∈ x.lights, 0 ≤ v := by
  simp [isRecord] at h
  exact goR_len h.2
def upto (u : Int) : List Note → Int
  | [] => u
  | y :: _ => if y.second < u then y.second else u
def pos (n : Int) : Int := if 0 < n then n else 0
def goShare (i : Nat) (u : Int) : List Note → Int → Int
  | [], acc => acc
  | x :: r, acc => goShare i u r (if x.lights[i]? = some 1 then W (acc + pos (W (upto u r - x.second))) else acc)
def openShare (l : List Note) (i u : Int) : Int :=
  if isRecord l = false ∨ 1000000 < u then 0 else
  match l with
  | [] => 0
  | x :: _ => if u ≤ x.second ∨ i < 0 ∨ (x.lights.length : Int) ≤ i then 0 else W (Int.tdiv (W (100 * goShare i.toNat u l 0)) (W (u - x.second)))
theorem sMin_v (a b : Int) : S_sMin a b = some (if b < a then b else a) := by
  unfold S_sMin
  rw [cnd_if]
  simp only [decide_eq_true_eq]
  split <;> rfl
theorem drop_next {α : Type} {l : List α} {k : Nat} {y : α} (h : l[k]? = some y) : l.drop k = y :: l.drop (k + 1) := by
  obtain ⟨h1, h2⟩ := List.getElem?_eq_some_iff.1 h
  rw [List.drop_eq_getElem_cons h1, h2]
def lightOf (e : Note) (i : Int) : Int := if 0 ≤ i then (match e.lights[i.toNat]? with | some v => v | none => -1) else -1
theorem ilightOf_v (e : Note) (i : Int) : S_ilightOf e i = some (lightOf e i) := by
  unfold S_ilightOf lightOf
  simp
  by_cases h : i < 0
  · simp [h, show ¬ 0 ≤ i by omega]
  obtain ⟨m, rfl⟩ : ∃ m : Nat, i = (m : Int) := ⟨i.toNat, by omega⟩
  by_cases h2 : m < e.lights.length
  · have hv : e.lights[m]? = some e.lights[m] := List.getElem?_eq_getElem h2
    simp [h2, getZ_at hv, hv, h, cnd_if]
    omega
  · simp [show e.lights.length ≤ m by omega, cnd_if]
theorem iOpenShare_v (l : List Note) (i u : Int) (h : Sm l ∧ ∀ y ∈ l, SmNote y) : S_iOpenShare l i u = some (openShare l i u) := by
  unfold S_iOpenShare
  simp [iIsRecord_v l h]
  obtain ⟨h, hs⟩ := h
  unfold Sm at h
  cases hR : isRecord l with
  | false => simp [openShare, hR]
  | true =>
  have hL := isRecord_len hR
  cases l with
  | nil => simp [openShare]
  | cons x0 t =>
  have h00 := hL x0 (List.mem_cons_self ..)
  simp [openShare, hR, getZ_zero, ilightOf_v]
  rw [show (((t.length : Int) + 1) == 0) = false by simp; omega, cnd_ff]
  by_cases c2 : i < 0
  · simp [c2, show ¬ 0 ≤ i by omega, lightOf]
  obtain ⟨m, rfl⟩ : ∃ m : Nat, i = (m : Int) := ⟨i.toNat, by omega⟩
  by_cases c3 : x0.lights.length ≤ m
  · simp [c3, lightOf, List.getElem?_eq_none c3]
  have hv0 : x0.lights[m]? = some x0.lights[m] := List.getElem?_eq_getElem (by omega)
  have hl0 : ¬ lightOf x0 m < 0 := by
    have := h00.2.2.2 _ (mem_at hv0)
    simp [lightOf, hv0]
    omega
  simp [hl0, c3]
  by_cases c1 : u ≤ x0.second
  · simp [c1]
  by_cases hu : (1000000 : Int) < u
  · simp [hu, cnd_if]
  simp [c1, hu]
  have hd : W (u - x0.second) = u - x0.second := W_id (by omega) (by omega)
  refine (iter_list0 (x0 :: t) (by omega) (fun k acc => (x0 :: t, (m : Int), u, acc, x0 :: t, (t.length : Int) + 1, (k : Int))) 0 (fun s _ acc => some (W (Int.tdiv (W (100 * goShare m u s acc)) (W (u - x0.second))))) rfl ?_ ?_).trans rfl
  · intro rec acc
    simp [getZ_zero, goShare]
    rw [ifA_pos (by omega)]
  · intro rec k x acc hx hk hr
    simp only [Int.natCast_succ] at hr
    have hkk : (k : Int) < (t.length : Int) + 1 := by simp at hk; omega
    have hb : k ≤ 9223372036854775806 := by simp at h; omega
    have hLx := hL x (mem_at hx)
    have hm : m < x.lights.length := by rw [hLx.1, ← h00.1]; omega
    have hv : x.lights[m]? = some x.lights[m] := List.getElem?_eq_getElem hm
    have e1 : ∀ n : Int, (if 0 < n then n else 0) = pos n := fun n => rfl
    have e : ∀ n : Int, cnd (lightOf x m == 1) (rec (x0 :: t, (m : Int), u, W (acc + pos n), x0 :: t, (t.length : Int) + 1, (k : Int) + 1)) (rec (x0 :: t, (m : Int), u, acc, x0 :: t, (t.length : Int) + 1, (k : Int) + 1)) = rec (x0 :: t, (m : Int), u, (if x.lights[m]? = some 1 then W (acc + pos n) else acc), x0 :: t, (t.length : Int) + 1, (k : Int) + 1) := by
      intro n
      have : lightOf x m = x.lights[m] := by simp [lightOf, hv]
      rw [this, hv]
      by_cases c : x.lights[m] = 1 <;> simp [c, cnd_if]
    simp [hkk, getZ_at hx, W_n1 hb, ilightOf_v, goShare, e1]
    by_cases hn : k + 1 < (x0 :: t).length
    · have hy : (x0 :: t)[k + 1]? = some (x0 :: t)[k + 1] := List.getElem?_eq_getElem hn
      have hd : t.drop k = (x0 :: t)[k + 1] :: t.drop (k + 1) := by
        exact drop_next hy
      have hup : upto u (t.drop k) = (if (x0 :: t)[k + 1].second < u then (x0 :: t)[k + 1].second else u) := by rw [hd]; rfl
      have hkn : k < t.length := by simp at hn; omega
      have hz : ∀ K : Note → Option Int, getZ (x0 :: t) ((k : Int) + 1) K = K (x0 :: t)[k + 1] := fun K => getZ_at hy K
      simp only [hkn, decide_true, cnd_tt, hz, e]
      rw [hr]
      simp only [hup, Int.toNat_natCast, List.drop_succ_cons]
    · have hkn : ¬ k < t.length := by simp at hn; omega
      have hd : t.drop k = [] := by
        apply List.drop_eq_nil_of_le
        omega
      simp only [hkn, decide_false, cnd_ff, e]
      rw [hr]
      simp only [hd, upto, Int.toNat_natCast, List.drop_succ_cons]
@[simp] theorem bnd_id {α : Type} (x : Option α) : bnd x (fun r => some r) = x := by cases x <;> rfl
theorem mapG_loop {α γ β V : Type} (l : List α) (f : α → γ) (hl : l.length ≤ 1099511627776) (st : Nat → List γ → V) (K : List γ → Option β) {F : (V → Option β) → V → Option β} {v : V} (hv : v = st 0 [])
    (h0 : ∀ rec acc, acc.length = l.length → F rec (st l.length acc) = K acc)
    (h1 : ∀ rec k x acc, l[k]? = some x → k < l.length → acc.length = k → F rec (st k acc) = rec (st (k + 1) (acc ++ [f x]))) : iter F NN v = K (l.map f) := by
  refine (iter_listJ l (by omega) st [] (fun k acc => acc.length = k) rfl (fun s _ acc => K (acc ++ s.map f)) hv ?_ ?_).trans (by simp)
  · intro rec acc h
    rw [h0 rec acc h]
    simp
  · intro rec k x acc h hx hk hr
    rw [h1 rec k x acc hx hk h, hr _ (by simp [h])]
    simp
theorem eqs_loop {α V β : Type} [DecidableEq α] (a b : List α) (hl : a.length = b.length) (h : a.length ≤ 1099511627776) (st : Nat → V) (K no : Option β) {F : (V → Option β) → V → Option β} {v : V} (hv : v = st 0)
    (h0 : ∀ rec, F rec (st a.length) = K) (h1 : ∀ rec k x y, a[k]? = some x → b[k]? = some y → k < a.length → F rec (st k) = if x = y then rec (st (k + 1)) else no) :
    iter F NN v = if a = b then K else no := by
  refine (iter_list0 a (by omega) (fun k (_ : Unit) => st k) () (fun l k _ => if l = b.drop k then K else no) hv ?_ ?_).trans (by simp)
  · intro rec _
    rw [h0, hl, List.drop_length]
    simp
  · intro rec k x _ hx hk hr
    have hkb : k < b.length := by omega
    have hy : b[k]? = some b[k] := List.getElem?_eq_getElem hkb
    rw [h1 rec k x _ hx hy hk, hr (), List.drop_eq_getElem_cons hkb]
    by_cases e : x = b[k]
    · rw [if_pos e]
      simp only [List.cons.injEq, e, true_and]
    · rw [if_neg e, if_neg fun h => e (List.cons.inj h).1]
theorem len_bne {α : Type} {a b : List α} (h : a.length = b.length) : (((a.length : Nat) : Int) != ((b.length : Nat) : Int)) = false := by simp [h]
theorem len_bne' {α : Type} {a b : List α} (h : ¬ a.length = b.length) : (((a.length : Nat) : Int) != ((b.length : Nat) : Int)) = true := by simp; omega
theorem ne_of_len {α : Type} {a b : List α} (h : ¬ a.length = b.length) : ¬ a = b := fun e => h (by rw [e])
theorem sEqualInts_v (a b : List Int) (h : Sm a) : S_sEqualInts a b = some (decide (a = b)) := by
  unfold Sm at h
  unfold S_sEqualInts
  simp only [rC_v, len_i, rws_i, geti_i]
  by_cases hl : a.length = b.length
  · rw [len_bne hl, cnd_ff]
    refine (eqs_loop a b hl (by omega) (fun k => (a, b, (k : Int))) (some true) (some false) rfl ?_ ?_).trans (by split <;> simp_all)
    · intro rec; simp
    · intro rec k x y hx hy hk
      simp [hk, getZ_at hx, getZ_at hy, W_n1 (show k ≤ 9223372036854775806 by omega), cnd_if]
  · rw [len_bne' hl, cnd_tt]
    simp [ne_of_len hl]
theorem NN_64 : ∃ n, NN = n + 64 := ⟨NN - 64, by rw [NN_eq]⟩
def crossI (a b c d : Int) : Bool := if a = b ∨ a = c ∨ a = d ∨ b = c ∨ b = d ∨ c = d then false else (decide (Int.tmod (c - a + 8) 8 < Int.tmod (b - a + 8) 8) != decide (Int.tmod (d - a + 8) 8 < Int.tmod (b - a + 8) 8))
theorem iInterleave_v {a b c d : Int} (ha : 0 ≤ a ∧ a ≤ 7) (hb : 0 ≤ b ∧ b ≤ 7) (hc : 0 ≤ c ∧ c ≤ 7) (hd : 0 ≤ d ∧ d ≤ 7) : S_iInterleave a b c d = some (crossI a b c d) := by
  unfold S_iInterleave crossI
  obtain ⟨n, hn⟩ := NN_64
  rw [hn]
  have e : ∀ K : List Int → Option Bool, rws iR [[I a], [I b], [I c], [I d]] K = K [a, b, c, d] := fun _ => rfl
  have w1 : W (c - a) = c - a := W_id (by omega) (by omega)
  have w2 : W (b - a) = b - a := W_id (by omega) (by omega)
  have w3 : W (d - a) = d - a := W_id (by omega) (by omega)
  have w4 : W (c - a + 8) = c - a + 8 := W_id (by omega) (by omega)
  have w5 : W (b - a + 8) = b - a + 8 := W_id (by omega) (by omega)
  have w6 : W (d - a + 8) = d - a + 8 := W_id (by omega) (by omega)
  simp only [rC_v, e, geti_i, len_i, rws_i]
  simp [iter, iInRange_v, getZ, W_id, ha, hb, hc, hd, w1, w2, w3, w4, w5, w6, cnd_if]
  grind
def arm (n : Int) : Prop := n = 0 ∨ n = 1 ∨ n = 2 ∨ n = 3
set_option maxRecDepth 100000 in
theorem sInterleave_v {a b c d : Int} (ha : arm a) (hb : arm b) (hc : arm c) (hd : arm d) : S_sInterleave (2 * a) (2 * b + 1) (2 * c) (2 * d + 1) = some (crossI (2 * a) (2 * b + 1) (2 * c) (2 * d + 1)) := by
  unfold S_sInterleave
  obtain ⟨n, hn⟩ := NN_64
  rw [hn]
  rcases ha with rfl | rfl | rfl | rfl <;> rcases hb with rfl | rfl | rfl | rfl <;> rcases hc with rfl | rfl | rfl | rfl <;> rcases hd with rfl | rfl | rfl | rfl <;> rfl
def conflict (a b : Path) : Bool :=
  if isPath a = false ∨ isPath b = false then false
  else if a.kind = 2 ∧ b.kind = 2 then false
  else if a.kind = 2 then b.src == a.src || b.dst == a.src
  else if b.kind = 2 then a.src == b.src || a.dst == b.src
  else if a.src = b.src then false
  else if a.dst = b.dst then true
  else crossI (2 * a.src) (2 * a.dst + 1) (2 * b.src) (2 * b.dst + 1)
theorem arm_src {p : Path} (h : isPath p = true) : arm p.src := by
  simp [isPath, inR] at h
  unfold arm; omega
theorem arm_dst {p : Path} (h : isPath p = true) : arm p.dst := by
  simp [isPath, inR] at h
  unfold arm; omega
theorem arm_rg {n : Int} (h : arm n) : 0 ≤ n ∧ n ≤ 3 := by unfold arm at h; omega
theorem sInPlace_v {n : Int} (h : arm n) : S_sInPlace n = some (2 * n) := by rcases h with rfl | rfl | rfl | rfl <;> rfl
theorem sOutPlace_v {n : Int} (h : arm n) : S_sOutPlace n = some (2 * n + 1) := by rcases h with rfl | rfl | rfl | rfl <;> rfl
theorem iInPlace_v {n : Int} (h : arm n) : S_iInPlace n = some (2 * n) := by rcases h with rfl | rfl | rfl | rfl <;> rfl
theorem iOutPlace_v {n : Int} (h : arm n) : S_iOutPlace n = some (2 * n + 1) := by rcases h with rfl | rfl | rfl | rfl <;> rfl
theorem sConflict_v (a b : Path) : S_sConflict a b = some (conflict a b) := by
  unfold S_sConflict conflict
  simp only [sIsPath_v, bnd_some]
  cases ha : isPath a with
  | false => simp
  | true =>
  cases hb : isPath b with
  | false => simp
  | true =>
  simp [sInPlace_v (arm_src ha), sOutPlace_v (arm_dst ha), sInPlace_v (arm_src hb), sOutPlace_v (arm_dst hb), sInterleave_v (arm_src ha) (arm_dst ha) (arm_src hb) (arm_dst hb), cnd_if]
  grind
theorem iConflict_v (a b : Path) : S_iConflict a b = some (conflict a b) := by
  unfold S_iConflict conflict
  simp only [iIsPath_v, bnd_some]
  cases ha : isPath a with
  | false => simp
  | true =>
  cases hb : isPath b with
  | false => simp
  | true =>
  have r1 := arm_rg (arm_src ha)
  have r2 := arm_rg (arm_dst ha)
  have r3 := arm_rg (arm_src hb)
  have r4 := arm_rg (arm_dst hb)
  have hi := iInterleave_v (a := 2 * a.src) (b := 2 * a.dst + 1) (c := 2 * b.src) (d := 2 * b.dst + 1) (by omega) (by omega) (by omega) (by omega)
  have hz : a.src = b.src → crossI (2 * a.src) (2 * a.dst + 1) (2 * b.src) (2 * b.dst + 1) = false := fun h => by simp [crossI, h]
  simp [iInPlace_v (arm_src ha), iOutPlace_v (arm_dst ha), iInPlace_v (arm_src hb), iOutPlace_v (arm_dst hb), hi, cnd_if]
  grind
def has (l : List Int) (n : Int) : Bool := l.any fun x => x == n
theorem sl6Has_v (l : List Int) (n : Int) (h : Sm l) : S_sl6Has l n = some (has l n) := by
  unfold Sm at h
  unfold S_sl6Has has
  simp
  refine (iter_list0 l (by omega) (fun k (_ : Unit) => (l, n, (k : Int))) () (fun s _ _ => some (s.any fun x => x == n)) rfl ?_ ?_).trans (by simp)
  · intro rec _; simp
  · intro rec k x _ hx hk hr
    have hr' := hr ()
    simp only [Int.natCast_succ] at hr'
    simp [hk, getZ_at hx, W_n1 (show k ≤ 9223372036854775806 by omega), cnd_if]
    by_cases e : x = n
    · simp [e]
    · simp [e, hr']
theorem find_loop {α V β : Type} (l : List α) (p : α → Bool) (hl : l.length ≤ 1099511627776) (st : Nat → V) (K : Nat → Option β) (no : Option β) {F : (V → Option β) → V → Option β} {v : V} (hv : v = st 0)
    (h0 : ∀ rec, F rec (st l.length) = no)
    (h1 : ∀ rec k x, l[k]? = some x → k < l.length → F rec (st k) = if p x = true then K k else rec (st (k + 1))) : iter F NN v = match l.findIdx? p with | some i => K i | none => no := by
  refine (iter_list0 l (by omega) (fun k (_ : Unit) => st k) () (fun s k _ => match s.findIdx? p with | some i => K (k + i) | none => no) hv ?_ ?_).trans ?_
  · intro rec _
    rw [h0]; simp
  · intro rec k x _ hx hk hr
    rw [h1 rec k x hx hk, List.findIdx?_cons]
    cases p x with
    | true => simp
    | false =>
      rw [if_neg (by simp), hr ()]
      cases (l.drop (k + 1)).findIdx? p with
      | none => simp
      | some i => simp; congr 1; omega
  · cases l.findIdx? p <;> simp
def findPath (l : List Path) (id : Int) : Int := match l.findIdx? (fun p => p.id == id) with | some i => (i : Int) | none => -1
theorem sFindPath_v (l : List Path) (id : Int) (h : Sm l) : S_sFindPath l id = some (findPath l id) := by
  unfold Sm at h
  unfold S_sFindPath findPath
  simp
  refine (find_loop l (fun p => p.id == id) (by omega) (fun k => (l, id, (k : Int))) (fun k => some (k : Int)) (some (-1)) rfl ?_ ?_).trans ?_
  · intro rec; simp
  · intro rec k x hx hk
    simp [hk, getZ_at hx, W_n1 (show k ≤ 9223372036854775806 by omega), cnd_if]
  · cases l.findIdx? _ <;> rfl
theorem findPath_lt {l : List Path} {id : Int} (h : ¬ findPath l id < 0) : ∃ (i : Nat) (x : Path), l[i]? = some x ∧ findPath l id = (i : Int) ∧ x.id = id := by
  unfold findPath at h ⊢
  cases hf : l.findIdx? (fun p => p.id == id) with
  | none => rw [hf] at h; simp at h
  | some i =>
    have := List.findIdx?_eq_some_iff_getElem.1 hf
    obtain ⟨h1, h2, _⟩ := this
    exact ⟨i, l[i], List.getElem?_eq_getElem h1, rfl, by simpa using h2⟩
def pathAt (l : List Path) (id : Int) : Path := (l[(findPath l id).toNat]?).getD default
theorem getZ_find {β : Type} {l : List Path} {id : Int} (h : ¬ findPath l id < 0) (K : Path → Option β) : getZ l (findPath l id) K = K (pathAt l id) := by
  obtain ⟨i, x, h1, h2, _⟩ := findPath_lt h
  unfold pathAt
  rw [h2, getZ_at h1, Int.toNat_natCast, h1]
  rfl
def prevOk (ids : List Int) (k : Nat) (x : Int) : Bool := if k = 0 then true else match ids[k - 1]? with | some y => decide (y < x) | none => true
def noClash (l : List Path) (x y : Int) : Bool := !conflict (pathAt l x) (pathAt l y)
def goT (l : List Path) (ids : List Int) : Nat → List Int → Bool
  | _, [] => true
  | k, x :: r => !decide (findPath l x < 0) && prevOk ids k x && (ids.take k).all (noClash l x) && goT l ids (k + 1) r
def together (l : List Path) (ids : List Int) : Bool := goT l ids 0 ids && arePaths l
theorem take_at' {α : Type} {l : List α} {k j : Nat} {x : α} (h : (l.take k)[j]? = some x) : l[j]? = some x := by
  rw [List.getElem?_take] at h
  split at h
  · exact h
  · cases h
theorem mem_take_succ {α : Type} {l : List α} {k : Nat} {x y : α} (hx : l[k]? = some x) (h : y ∈ l.take (k + 1)) : y ∈ l.take k ∨ y = x := by
  rw [List.take_add_one, hx] at h
  simpa using h
theorem sIsTogether_v (l : List Path) (ids : List Int) (h : Sm l) (hi : Sm ids) : S_sIsTogether l ids = some (together l ids) := by
  unfold S_sIsTogether together
  simp
  have hi' := hi
  unfold Sm at hi'
  refine (iter_listJ ids (by omega) (fun k (_ : Unit) => (l, ids, (k : Int))) () (fun k _ => ∀ y ∈ ids.take k, ¬ findPath l y < 0) (by simp) (fun s k _ => some (goT l ids k s && arePaths l)) rfl ?_ ?_).trans rfl
  · intro rec _ _
    simp [sArePaths_v l h, goT]
  · intro rec k x _ hJ hx hk hr
    simp only [Int.natCast_succ] at hr
    have hk2 : k ≤ 9223372036854775806 := by omega
    simp [hk, getZ_at hx, sFindPath_v l _ h, goT]
    by_cases c1 : findPath l x < 0
    · simp [c1]
    have hr' := hr () fun y hy => by
      rcases mem_take_succ hx hy with h1 | rfl
      · exact hJ y h1
      · exact c1
    simp only [c1, decide_false, cnd_ff, Bool.not_false, Bool.true_and]
    have hlen : (ids.take k).length = k := by rw [List.length_take]; omega
    generalize hI : iter (_ : (List Path × List Int × Int × Int × Int → Option Bool) → _ → Option Bool) NN _ = I
    have hI' : I = if (ids.take k).all (noClash l x) = true then some (goT l ids (k + 1) (ids.drop (k + 1)) && arePaths l) else some false := by
      rw [← hI]
      refine all_loop (ids.take k) (noClash l x) (by omega) (fun j => (l, ids, (k : Int), findPath l x, (j : Int))) _ _ rfl ?_ ?_
      · intro rec'
        simp [hlen, W_n1 hk2, hr']
      · intro rec' j y hy hj
        have hy' := take_at' hy
        have hj' : j < k := by omega
        simp [hj', getZ_find c1, getZ_at hy', sFindPath_v l _ h, getZ_find (hJ y (mem_at hy)), sConflict_v, W_n1 (show j ≤ 9223372036854775806 by omega), cnd_if, noClash]
        cases conflict (pathAt l x) (pathAt l y) <;> simp
    rw [hI']
    generalize (ids.take k).all (noClash l x) = A
    by_cases h0 : k = 0
    · subst h0
      simp [prevOk]
      cases A <;> simp
    · have hz : ids[k - 1]? = some ids[k - 1] := List.getElem?_eq_getElem (by omega)
      have hk1 : W ((k : Int) - 1) = ((k - 1 : Nat) : Int) := by rw [W_id (by omega) (by omega)]; omega
      simp [show 0 < k by omega, hk1, getZ_at hz]
      rw [show prevOk ids k x = decide (ids[k - 1] < x) by unfold prevOk; simp [h0, hz]]
      by_cases c4 : x ≤ ids[k - 1]
      · simp [c4, show ¬ ids[k - 1] < x by omega]
      · simp [c4, show ids[k - 1] < x by omega]
        cases A <;> simp
@[simp] theorem rws_app_i' {β : Type} (l : List Int) (s : Int) (K : List Int → Option β) : rws iR (l.map iR.enc ++ [[I s]]) K = K (l ++ [s]) :=
  (congrArg (fun z => rws iR z K) (List.map_append (f := iR.enc) (l₁ := l) (l₂ := [s])).symm).trans (rws_enc iR (l ++ [s]) K)
@[simp] theorem bnd_id' {α : Type} (x : Option α) : bnd x (fun r => some r) = x := by cases x <;> rfl
theorem filter_loop {α β V : Type} (l : List α) (p : α → Bool) (hl : l.length ≤ 1099511627776) (st : Nat → List α → V) (K : List α → Option β) {F : (V → Option β) → V → Option β} {v : V} (hv : v = st 0 [])
    (h0 : ∀ rec acc, acc.length ≤ l.length → F rec (st l.length acc) = K acc)
    (h1 : ∀ rec k x acc, l[k]? = some x → k < l.length → acc.length ≤ k → F rec (st k acc) = rec (st (k + 1) (if p x = true then acc ++ [x] else acc))) : iter F NN v = K (l.filter p) := by
  refine (iter_listJ l (by omega) st [] (fun k acc => acc.length ≤ k) (Nat.le_refl _) (fun s _ acc => K (acc ++ s.filter p)) hv ?_ ?_).trans (by simp)
  · intro rec acc h
    rw [h0 rec acc h]
    simp
  · intro rec k x acc h hx hk hr
    rw [h1 rec k x acc hx hk h]
    cases hp : p x with
    | true => rw [if_pos rfl, hr _ (by simp; omega), List.filter_cons_of_pos hp]; simp
    | false => rw [if_neg (by simp), hr _ (by omega), List.filter_cons_of_neg (by simp [hp])]
def closes (a b : List Int) : List Int := a.filter fun x => !has b x
theorem sCloses_v (a b : List Int) (h : Sm a) (hb : Sm b) : S_sCloses a b = some (closes a b) := by
  have h' := h
  unfold Sm at h'
  unfold S_sCloses closes
  simp
  refine (filter_loop a (fun x => !has b x) (by omega) (fun k acc => (a, b, acc, (k : Int))) some rfl ?_ ?_)
  · intro rec acc ha; simp
  · intro rec k x acc hx hk ha
    simp [hk, getZ_at hx, sl6Has_v b _ hb, W_n1 (show k ≤ 9223372036854775806 by omega), show (acc.length + 1) * 8 ≤ 140737488355328 by omega, show acc.length ≤ 1152921504606846975 by omega]
    cases has b x <;> simp
theorem goT_find {l : List Path} {ids : List Int} : ∀ {s : List Int} {k : Nat}, goT l ids k s = true → ∀ x ∈ s, ¬ findPath l x < 0
  | [], _, _ => fun x hx => by cases hx
  | y :: s, k, h => fun x hx => by
    simp only [goT, Bool.and_eq_true, Bool.not_eq_true', decide_eq_false_iff_not] at h
    rcases List.mem_cons.1 hx with rfl | hx
    · exact h.1.1.1
    · exact goT_find h.2 x hx
theorem together_find {l : List Path} {ids : List Int} (h : together l ids = true) : ∀ x ∈ ids, ¬ findPath l x < 0 := by
  simp only [together, Bool.and_eq_true] at h
  exact goT_find h.1
theorem closes_sub {a b : List Int} {x : Int} (h : x ∈ closes a b) : x ∈ a := (List.mem_filter.1 h).1
theorem closes_sm {a b : List Int} (h : Sm a) : Sm (closes a b) := Nat.le_trans (List.length_filter_le _ _) h
def most (n c : Int) : Int := if n < c then c else n
def stepC (l : List Path) (x : Int) (n y : Int) : Int := if conflict (pathAt l x) (pathAt l y) then most n (clearOf (pathAt l x)) else n
def clearBetween (l : List Path) (a b : List Int) : Int :=
  if together l a = true ∧ together l b = true then (closes a b).foldl (fun n x => (closes b a).foldl (stepC l x) n) 0 else 0
theorem sClearBetween_v (l : List Path) (a b : List Int) (h : Sm l) (ha : Sm a) (hb : Sm b) : S_sClearBetween l a b = some (clearBetween l a b) := by
  unfold S_sClearBetween clearBetween
  simp [sCloses_v _ _ ha hb, sCloses_v _ _ hb ha]
  have hA := closes_sm (b := b) ha
  have hB := closes_sm (b := a) hb
  unfold Sm at hA hB
  refine (iter_list0 (closes a b) (by omega) (fun k n => (l, a, b, n, closes a b, closes b a, (k : Int))) 0 (fun s _ n => some (if together l a = true ∧ together l b = true then s.foldl (fun n x => (closes b a).foldl (stepC l x) n) n else n)) rfl ?_ ?_).trans rfl
  · intro rec n; simp
  · intro rec k x n hx hk hr
    simp only [Int.natCast_succ] at hr
    simp [hk, getZ_at hx, sIsTogether_v l _ h ha, sIsTogether_v l _ h hb]
    cases t1 : together l a with
    | false => simp
    | true =>
    cases t2 : together l b with
    | false => simp
    | true =>
    simp only [t1, t2, and_self, if_true] at hr
    simp
    have hfx := together_find t1 x (closes_sub (mem_at hx))
    refine (iter_list0 (closes b a) (by omega) (fun j n => (l, a, b, n, closes a b, closes b a, (k : Int), (j : Int))) n (fun s _ n => rec (l, a, b, s.foldl (stepC l x) n, closes a b, closes b a, (k : Int) + 1)) rfl ?_ ?_).trans ?_
    · intro rec' n
      simp [W_n1 (show k ≤ 9223372036854775806 by omega)]
    · intro rec' j y n hy hj hr'
      simp only [Int.natCast_succ] at hr'
      have hfy := together_find t2 y (closes_sub (mem_at hy))
      simp [hj, getZ_at hx, getZ_at hy, sFindPath_v l _ h, getZ_find hfx, getZ_find hfy, sConflict_v, sClearOf_v, sMax_v, W_n1 (show j ≤ 9223372036854775806 by omega), cnd_if]
      cases hc : conflict (pathAt l x) (pathAt l y) <;> simp [stepC, most, hc, hr']
    · simp [hr]
def isControl (l : List Path) (x : Control) : Bool :=
  !x.stage.isEmpty && together l x.stage && together l x.next && inR x.since 0 1000000 && (if x.next = [] then x.left == 0 else inR x.left 1 (clearBetween l x.stage x.next))
theorem len0 {α : Type} (l : List α) : (((l.length : Nat) : Int) == 0) = l.isEmpty := by
  cases l with
  | nil => rfl
  | cons x l => simp; omega
theorem sIsControl_v (l : List Path) (x : Control) (h : Sm l) (hx : SmControl x) : S_sIsControl l x = some (isControl l x) := by
  obtain ⟨h1, h2⟩ := hx
  unfold S_sIsControl isControl
  simp only [rC_v, rws_path, rws_i, len_i, len0, sIsTogether_v l _ h h1, sIsTogether_v l _ h h2, sClearBetween_v l _ _ h h1 h2, sl1In_r, bnd_some]
  cases x.stage.isEmpty <;> cases together l x.stage <;> cases together l x.next <;> cases inR x.since 0 1000000 <;> cases hn : x.next <;> simp
def walk (l : List Path) (x : Int) : Bool := !decide (findPath l x < 0) && (pathAt l x).kind == 2
def leastGreen (l : List Path) (ids : List Int) : Int := if ids.all (fun x => !walk l x) = true then 5 else 7
theorem sLeastGreen_v (l : List Path) (ids : List Int) (h : Sm l) (hi : Sm ids) : S_sLeastGreen l ids = some (leastGreen l ids) := by
  unfold Sm at hi
  unfold S_sLeastGreen leastGreen
  simp only [rC_v, rws_path, rws_i, len_i]
  refine (all_loop ids (fun x => !walk l x) (by omega) (fun k => (l, ids, (k : Int))) (some 5) (some 7) rfl ?_ ?_).trans (by split <;> rfl)
  · intro rec; simp
  · intro rec k x hx hk
    simp [hk, getZ_at hx, W_n1 (show k ≤ 9223372036854775806 by omega), sFindPath_v l _ h, walk]
    by_cases c : findPath l x < 0
    · have : ¬ (0 ≤ findPath l x) := by omega
      simp [c, this, cnd_if]
    · have : 0 ≤ findPath l x := by omega
      simp [c, this, cnd_if, getZ_find c]
theorem sl14Copy_v (x : Control) (h : SmControl x) : S_sl14Copy x = some x := by
  obtain ⟨h1, h2⟩ := h
  unfold Sm at h1 h2
  unfold S_sl14Copy
  simp only [rC_v, len_i, List.length_nil, clrs_i, rws_i]
  rw [ifA_pos (by omega), ifA_pos (by omega)]
theorem appe_note {o p q : Own} (h0 : okO o p = true) (h1 : okO o q = true) (l : List Note) (a : Int) (b : List Int) (c : Int) {β : Type} (K : List Note → Option β) :
    rws (noteR o) (l.map (noteR p).enc ++ [[I a, .slc q 1 (b.map iR.enc), I c]]) K = K (l ++ [(⟨a, b, c⟩ : Note)]) :=
  (rws_app _ _ _ K).trans ((rws_note h0 l _).trans (row_note h1 a b c fun l' => K (l ++ l')))
@[simp] theorem appe_note_ss (l : List Note) (a : Int) (b : List Int) (c : Int) {β : Type} (K : List Note → Option β) : rws (noteR Own.shr) (l.map (noteR Own.shr).enc ++ [[I a, .slc Own.shr 1 (b.map iR.enc), I c]]) K = K (l ++ [(⟨a, b, c⟩ : Note)]) := appe_note (o := .shr) (p := .shr) (q := .shr) rfl rfl l a b c K
@[simp] theorem appe_note_so (l : List Note) (a : Int) (b : List Int) (c : Int) {β : Type} (K : List Note → Option β) : rws (noteR Own.shr) (l.map (noteR Own.shr).enc ++ [[I a, .slc Own.own 1 (b.map iR.enc), I c]]) K = K (l ++ [(⟨a, b, c⟩ : Note)]) := appe_note (o := .shr) (p := .shr) (q := .own) rfl rfl l a b c K
@[simp] theorem appe_note_oo (l : List Note) (a : Int) (b : List Int) (c : Int) {β : Type} (K : List Note → Option β) : rws (noteR Own.own) (l.map (noteR Own.own).enc ++ [[I a, .slc Own.own 1 (b.map iR.enc), I c]]) K = K (l ++ [(⟨a, b, c⟩ : Note)]) := appe_note (o := .own) (p := .own) (q := .own) rfl rfl l a b c K
@[simp] theorem appe_note_soo (l : List Note) (a : Int) (b : List Int) (c : Int) {β : Type} (K : List Note → Option β) : rws (noteR Own.shr) (l.map (noteR Own.own).enc ++ [[I a, .slc Own.own 1 (b.map iR.enc), I c]]) K = K (l ++ [(⟨a, b, c⟩ : Note)]) := appe_note (o := .shr) (p := .own) (q := .own) rfl rfl l a b c K
abbrev SmR (l : List Note) : Prop := Sm l ∧ ∀ y ∈ l, SmNote y
theorem sl27Copy_v (l : List Note) (h : SmR l) : S_sl27Copy l = some l := by
  obtain ⟨h1, h2⟩ := h
  unfold Sm at h1
  unfold S_sl27Copy
  simp only [rC_v, rws_note_ss, rws_note_so, rws_note_oo, len_note]
  refine (mapG_loop l id (by omega) (fun k acc => (l, (acc, (k : Int)))) some rfl ?_ ?_).trans (by simp)
  · intro rec acc ha; simp
  · intro rec k x acc hx hk ha
    have hs := h2 x (mem_at hx)
    unfold SmNote Sm at hs
    simp [hk, getZ_at hx, W_n1 (show k ≤ 9223372036854775806 by omega), ha, show (k + 1) * 40 ≤ 140737488355328 by omega, show k ≤ 1152921504606846975 by omega, show x.lights.length * 8 ≤ 140737488355328 by omega, show x.lights.length ≤ 1152921504606846976 by omega]
def lastSig (l : List Note) : Int := match l.getLast? with | some e => e.sig | none => 0
theorem last_get {l : List Note} {e : Note} (h : l.getLast? = some e) : l[l.length - 1]? = some e ∧ 0 < l.length := by
  cases l with
  | nil => cases h
  | cons a l => rw [List.getLast?_eq_getElem?] at h; exact ⟨h, by simp⟩
theorem sLastSeal_v (l : List Note) (h : SmR l) : S_sLastSeal l = some (lastSig l) := by
  have h1 := h.1
  unfold Sm at h1
  unfold S_sLastSeal lastSig
  simp only [len_note, geti_note_ss, geti_note_so, geti_note_oo]
  cases hl : l.getLast? with
  | none => have : l = [] := by simpa using hl
            subst this; rfl
  | some e =>
    obtain ⟨e1, e2⟩ := last_get hl
    have hk1 : W ((l.length : Int) - 1) = ((l.length - 1 : Nat) : Int) := by rw [W_id (by omega) (by omega)]; omega
    rw [hk1, getZ_at e1, show (((l.length : Nat) : Int) == 0) = false from beq_eq_false_iff_ne.2 (by omega), cnd_ff]
def entryOf (l : List Note) (s : Int) (v : List Int) : Note := ⟨s, v, sealOf (lastSig l) s v⟩
def addEntry (l : List Note) (s : Int) (v : List Int) : List Note × Bool := if isRecord (l ++ [entryOf l s v]) = true then (l ++ [entryOf l s v], true) else (l, false)
theorem smR_app {l : List Note} {e : Note} (h : SmR l) (hl : l.length ≤ 1000) (he : Sm e.lights) : SmR (l ++ [e]) := by
  refine ⟨by unfold Sm; simp; omega, fun y hy => ?_⟩
  rcases List.mem_append.1 hy with hy | hy
  · exact h.2 y hy
  · rw [List.mem_singleton] at hy
    subst hy
    exact he
theorem sAddEntry_v (l : List Note) (s : Int) (v : List Int) (h : SmR l) (hl : l.length ≤ 1000) (hv : Sm v) : S_sAddEntry l s v = some (addEntry l s v) := by
  have hv' := hv
  unfold Sm at hv'
  have ho : SmR (l ++ [(⟨s, v, sealOf (lastSig l) s v⟩ : Note)]) := smR_app h hl hv
  unfold S_sAddEntry addEntry entryOf
  simp [sl27Copy_v l h, sLastSeal_v l h, sSealOf_v _ s v hv, sIsRecord_v _ ho, show v.length * 8 ≤ 140737488355328 by omega, show v.length ≤ 1152921504606846976 by omega, show (l.length + 1) * 40 ≤ 140737488355328 by omega, show l.length ≤ 1152921504606846975 by omega]
  cases isRecord (l ++ [(⟨s, v, sealOf (lastSig l) s v⟩ : Note)]) <;> simp
def noteLights (l : List Note) (s : Int) (v : List Int) : List Note × Bool := match l.getLast? with
  | some e => if e.lights = v then (l, isRecord l && (decide (e.second < s) && inR s 0 1000000)) else addEntry l s v
  | none => addEntry l s v
theorem sNoteLights_v (l : List Note) (s : Int) (v : List Int) (h : SmR l) (hl : l.length ≤ 1000) (hv : Sm v) : S_sNoteLights l s v = some (noteLights l s v) := by
  unfold S_sNoteLights noteLights
  simp only [rC_v, rws_note_ss, rws_note_so, rws_note_oo, rws_i, len_note, geti_note_ss, geti_note_so, geti_note_oo, sAddEntry_v l s v h hl hv, sl27Copy_v l h, sIsRecord_v l h, bnd_some]
  cases hg : l.getLast? with
  | none => have : l = [] := by simpa using hg
            subst this; rfl
  | some e =>
    obtain ⟨e1, e2⟩ := last_get hg
    have hk1 : W ((l.length : Int) - 1) = ((l.length - 1 : Nat) : Int) := by rw [W_id (by omega) (by omega)]; omega
    have he : Sm e.lights := h.2 e (mem_at e1)
    rw [hk1, getZ_at e1, show (((l.length : Nat) : Int) == 0) = false from beq_eq_false_iff_ne.2 (by omega), cnd_ff, getZ_at e1]
    simp only [sEqualInts_v _ v he, bnd_some, sl1In_v]
    by_cases c : e.lights = v
    · simp only [c, decide_true, Bool.not_true, cnd_ff]
      cases isRecord l <;> by_cases c2 : e.second < s <;> simp [c2, inR]
    · simp [c]
theorem addEntry_sm {l : List Note} {s : Int} {v : List Int} (h : SmR l) (hl : l.length ≤ 1000) (hv : Sm v) : SmR (addEntry l s v).1 := by
  unfold addEntry
  split
  · exact smR_app h hl hv
  · exact h
theorem noteLights_sm {l : List Note} {s : Int} {v : List Int} (h : SmR l) (hl : l.length ≤ 1000) (hv : Sm v) : SmR (noteLights l s v).1 := by
  unfold noteLights
  split
  · split
    · exact h
    · exact addEntry_sm h hl hv
  · exact addEntry_sm h hl hv
theorem smR_nil : SmR [] := ⟨by unfold Sm; simp, fun y hy => by cases hy⟩
theorem clearOf_pos (p : Path) : 0 ≤ clearOf p ∧ clearOf p ≤ 5 := by
  unfold clearOf
  split
  · split
    · omega
    · split <;> omega
  · omega
theorem most_le {n c : Int} (h : 0 ≤ n ∧ n ≤ 5) (h' : 0 ≤ c ∧ c ≤ 5) : 0 ≤ most n c ∧ most n c ≤ 5 := by unfold most; split <;> omega
theorem stepC_le (l : List Path) (x : Int) : ∀ (s : List Int) (n : Int), 0 ≤ n ∧ n ≤ 5 → 0 ≤ s.foldl (stepC l x) n ∧ s.foldl (stepC l x) n ≤ 5
  | [], n, h => h
  | y :: s, n, h => by
    rw [List.foldl_cons]
    refine stepC_le l x s _ ?_
    unfold stepC
    split
    · exact most_le h (clearOf_pos _)
    · exact h
theorem clear_fold (l : List Path) (b : List Int) : ∀ (s : List Int) (n : Int), 0 ≤ n ∧ n ≤ 5 → 0 ≤ s.foldl (fun n x => b.foldl (stepC l x) n) n ∧ s.foldl (fun n x => b.foldl (stepC l x) n) n ≤ 5
  | [], n, h => h
  | y :: s, n, h => by
    rw [List.foldl_cons]
    exact clear_fold l b s _ (stepC_le l y b n h)
theorem clear_le (l : List Path) (a b : List Int) : 0 ≤ clearBetween l a b ∧ clearBetween l a b ≤ 5 := by
  unfold clearBetween
  split
  · exact clear_fold l _ _ 0 (by omega)
  · omega
def tick (l : List Path) (x : Control) : Control :=
  if isControl l x = true then
    (if x.next.isEmpty = true then { x with since := if x.since < 1000000 then x.since + 1 else 1000000 } else if x.left > 1 then { x with left := x.left - 1 } else ⟨x.next, 0, [], 0⟩)
  else x
theorem control_left {l : List Path} {x : Control} (h : isControl l x = true) : (0 ≤ x.since ∧ x.since ≤ 1000000) ∧ (x.next.isEmpty = false → 1 ≤ x.left ∧ x.left ≤ 5) := by
  unfold isControl inR at h
  simp only [Bool.and_eq_true, decide_eq_true_eq] at h
  refine ⟨h.1.2, fun hn => ?_⟩
  have h2 := h.2
  rw [if_neg (by intro e; rw [e] at hn; cases hn)] at h2
  simp only [Bool.and_eq_true, decide_eq_true_eq] at h2
  have := (clear_le l x.stage x.next).2
  omega
theorem sTickControl_v (l : List Path) (x : Control) (h : Sm l) (hx : SmControl x) : S_sTickControl l x = some (tick l x) := by
  unfold S_sTickControl tick
  simp only [rC_v, rws_path, rws_i, eta_Control, sl14Copy_v x hx, sIsControl_v l x h hx, bnd_some, len_i, len0, sMin_v]
  cases hc : isControl l x with
  | false => simp
  | true =>
    obtain ⟨h1, h2⟩ := control_left hc
    cases hn : x.next.isEmpty with
    | true =>
      rw [W_id (by omega) (by omega)]
      simp
      by_cases c : x.since < 1000000
      · rw [if_pos c]
        by_cases c2 : x.since + 1 < 1000000
        · rw [if_pos c2]
        · rw [if_neg c2]; omega
      · rw [if_neg c, if_neg (by omega)]
    | false =>
      obtain ⟨h3, h4⟩ := h2 hn
      rw [show W (x.left - 1) = x.left - 1 from W_id (by omega) (by omega)]
      by_cases c : x.left > 1
      · simp [c, show (x.left - 1 == 0) = false from beq_eq_false_iff_ne.2 (by omega)]
      · simp [c, show x.left = 1 by omega]
theorem tick_sm {l : List Path} {x : Control} (hx : SmControl x) : SmControl (tick l x) := by
  unfold tick
  split
  · split
    · exact hx
    · split
      · exact hx
      · exact ⟨hx.2, by unfold Sm; simp⟩
  · exact hx
theorem appe_want (l : List Want) (a b : Int) {β : Type} (K : List Want → Option β) : rws wantR (l.map wantR.enc ++ [[I a, I b]]) K = K (l ++ [(⟨a, b⟩ : Want)]) :=
  (rws_app _ _ _ K).trans ((rws_want l _).trans (row_want _ _ fun l' => K (l ++ l')))
theorem while_loop {α V β : Type} (l : List α) (p : α → Bool) (hl : l.length ≤ 1099511627776) (st : Nat → V) (R : Nat → Option β) {F : (V → Option β) → V → Option β} {v : V} (hv : v = st 0)
    (h0 : ∀ rec, F rec (st l.length) = R l.length)
    (h1 : ∀ rec k x, l[k]? = some x → k < l.length → F rec (st k) = if p x = true then rec (st (k + 1)) else R k) : iter F NN v = R (l.takeWhile p).length := by
  refine (iter_list0 l (by omega) (fun k (_ : Unit) => st k) () (fun s k _ => R (k + (s.takeWhile p).length)) hv ?_ ?_).trans (by simp)
  · intro rec _; rw [h0]; simp
  · intro rec k x _ hx hk hr
    rw [h1 rec k x hx hk, List.takeWhile_cons]
    cases p x with
    | true =>
      simp only [if_true]
      rw [hr ()]
      congr 1
      simp
      omega
    | false => simp
theorem takeWhile_le {α : Type} (p : α → Bool) (l : List α) : (l.takeWhile p).length ≤ l.length := (List.takeWhile_sublist p).length_le
def canEnd (l : List Path) (x : Control) : Bool := isControl l x && (x.next.isEmpty && decide (x.since ≥ leastGreen l x.stage))
theorem sCanEnd_v (l : List Path) (x : Control) (h : Sm l) (hx : SmControl x) : S_sCanEnd l x = some (canEnd l x) := by
  unfold S_sCanEnd canEnd
  simp only [rC_v, rws_path, rws_i, eta_Control, sIsControl_v l x h hx, bnd_some, len_i, len0, sLeastGreen_v l _ h hx.1]
  cases isControl l x <;> cases x.next.isEmpty <;> simp
def low (l : List Int) (n : Int) : Nat := (l.takeWhile fun x => decide (x < n)).length
theorem low_le (l : List Int) (n : Int) : low l n ≤ l.length := takeWhile_le _ _
theorem low_lt : ∀ {l : List Int} {n : Int} {i : Nat} {a : Int}, i < low l n → l[i]? = some a → a < n
  | [], n, i, a, h, hx => by cases hx
  | y :: l, n, i, a, h, hx => by
    unfold low at h
    rw [List.takeWhile_cons] at h
    by_cases c : y < n
    · rw [if_pos (by simp [c])] at h
      cases i with
      | zero => cases hx; exact c
      | succ i => exact low_lt (i := i) (by unfold low; simpa using h) hx
    · rw [if_neg (by simp [c])] at h
      cases h
theorem low_at : ∀ {l : List Int} {n : Int} {a : Int}, l[low l n]? = some a → ¬ a < n
  | [], n, a, h => by cases h
  | y :: l, n, a, h => by
    unfold low at h
    rw [List.takeWhile_cons] at h
    by_cases c : y < n
    · rw [if_pos (by simp [c])] at h
      exact low_at (l := l) (n := n) (by unfold low; simpa using h)
    · rw [if_neg (by simp [c])] at h
      cases h
      exact c
theorem low_ge {l : List Int} (hp : l.Pairwise (· < ·)) {n : Int} {i : Nat} {a : Int} (h : low l n ≤ i) (hx : l[i]? = some a) : ¬ a < n := by
  obtain ⟨hi, rfl⟩ := List.getElem?_eq_some_iff.1 hx
  have h1 : l[low l n]? = some l[low l n] := List.getElem?_eq_getElem (by omega)
  have h2 := low_at h1
  rcases Nat.lt_or_eq_of_le h with h | h
  · have := List.pairwise_iff_getElem.1 hp (low l n) i (by omega) hi h
    omega
  · simp only [← h]
    exact h2
def ins (l : List Int) (n : Int) : List Int := l.take (low l n) ++ [n] ++ l.drop (low l n)
def putI (l : List Int) (n : Int) : List Int := if l[low l n]? = some n then l else ins l n
theorem ins_len (l : List Int) (n : Int) : (ins l n).length = l.length + 1 := by
  have := low_le l n
  unfold ins
  simp only [List.length_append, List.length_take, List.length_drop, List.length_singleton]
  omega
theorem rws_ins (l : List Int) (n : Int) (k : Nat) {β : Type} (K : List Int → Option β) : rws iR (((l.take k).map iR.enc ++ [[I n]]) ++ (l.drop k).map iR.enc) K = K (l.take k ++ [n] ++ l.drop k) := by
  have e : ((l.take k).map iR.enc ++ [[I n]]) ++ (l.drop k).map iR.enc = (l.take k ++ [n] ++ l.drop k).map iR.enc := by
    have h1 := List.map_append (f := iR.enc) (l₁ := l.take k ++ [n]) (l₂ := l.drop k)
    have h2 := List.map_append (f := iR.enc) (l₁ := l.take k) (l₂ := [n])
    exact (h1.trans (congrArg (· ++ _) h2)).symm
  rw [e]
  exact rws_i _ _
theorem rws_ins2 (l : List Int) (n : Int) (k : Nat) {β : Type} (K : List Int → Option β) : rws iR (((l.take k).map iR.enc ++ [[I n]]) ++ ((l.take l.length).drop k).map iR.enc) K = K (l.take k ++ [n] ++ l.drop k) := by
  rw [List.take_length]
  exact rws_ins l n k K
theorem sl6Put_v (l : List Int) (n : Int) (h : Sm l) : S_sl6Put l n = some (putI l n) := by
  have h' := h
  unfold Sm at h'
  unfold S_sl6Put
  simp only [rC_v, rws_i, len_i, geti_i]
  have hk := low_le l n
  refine (while_loop l (fun x => decide (x < n)) (by omega) (fun k => (l, n, (k : Int))) (fun k => some (if l[k]? = some n then l else l.take k ++ [n] ++ l.drop k)) rfl ?_ ?_).trans rfl
  · intro rec
    rw [show decide (((l.length : Nat) : Int) < ((l.length : Nat) : Int)) = false from decide_eq_false (by omega), cnd_ff, cnd_ff]
    simp only [Int.toNat_natCast, show Int.toNat 0 = 0 from rfl, List.drop_zero, take_i, drop_i, clrs_i, len_i, List.length_nil, List.length_append, List.length_take, List.length_drop, List.length_singleton, rws_ins2]
    rw [ifA_pos (by omega), ifA_pos (by omega), ifA_pos (by omega), ifA_pos (by omega), ifA_pos (by omega)]
    rw [if_neg (by simp)]
  · intro rec k x hx hkl
    rw [show decide (((k : Nat) : Int) < ((l.length : Nat) : Int)) = true from decide_eq_true (by omega), cnd_tt, getZ_at hx]
    by_cases c : x < n
    · simp [c, W_n1 (show k ≤ 9223372036854775806 by omega)]
    rw [decide_eq_false c, cnd_ff, cnd_tt, getZ_at hx, if_neg (by simp), hx]
    simp only [rC_v, Int.toNat_natCast, show Int.toNat 0 = 0 from rfl, List.drop_zero, take_i, drop_i, clrs_i, len_i, List.length_nil, List.length_append, List.length_take, List.length_drop, List.length_singleton, rws_ins2, rws_i]
    by_cases c2 : x = n
    · subst c2
      rw [beq_self_eq_true, cnd_tt, ifA_pos (by omega), if_pos rfl]
    · rw [show (x == n) = false from beq_eq_false_iff_ne.2 c2, cnd_ff, ifA_pos (by omega), ifA_pos (by omega), ifA_pos (by omega), ifA_pos (by omega), ifA_pos (by omega), if_neg (by simp [c2])]
theorem goT_spec {l : List Path} {ids : List Int} : ∀ {r : List Int} {k : Nat}, goT l ids k r = true → ∀ i x, r[i]? = some x → ¬ findPath l x < 0 ∧ prevOk ids (k + i) x = true
  | [], k, h, i, x, hx => by cases hx
  | y :: r, k, h, i, x, hx => by
    unfold goT at h
    simp only [Bool.and_eq_true, Bool.not_eq_true', decide_eq_false_iff_not] at h
    cases i with
    | zero => cases hx; exact ⟨h.1.1.1, h.1.1.2⟩
    | succ i =>
      have := goT_spec h.2 i x hx
      rwa [show k + 1 + i = k + (i + 1) by omega] at this
theorem together_at {l : List Path} {a : List Int} (h : together l a = true) : ∀ (i : Nat) (x : Int), a[i]? = some x → ¬ findPath l x < 0 ∧ prevOk a i x = true := fun i x hx => by
  unfold together at h
  rw [Bool.and_eq_true] at h
  simpa using goT_spec h.1 i x hx
theorem together_next {l : List Path} {a : List Int} (h : together l a = true) {i : Nat} {x y : Int} (hx : a[i]? = some x) (hy : a[i + 1]? = some y) : x < y := by
  have := (together_at h (i + 1) y hy).2
  unfold prevOk at this
  rw [if_neg (by omega), Nat.add_sub_cancel, hx] at this
  simpa using this
theorem together_lt {l : List Path} {a : List Int} (h : together l a = true) : ∀ (d i : Nat) (x y : Int), a[i]? = some x → a[i + d + 1]? = some y → x < y
  | 0, i, x, y, hx, hy => together_next h hx hy
  | d + 1, i, x, y, hx, hy => by
    have hl : i + (d + 1) + 1 < a.length := (List.getElem?_eq_some_iff.1 hy).1
    have hz : a[i + d + 1]? = some a[i + d + 1] := List.getElem?_eq_getElem (by omega)
    have h1 := together_lt h d i x _ hx hz
    have h2 := together_next h hz (by rw [show i + d + 1 + 1 = i + (d + 1) + 1 by omega]; exact hy)
    omega
theorem together_sorted {l : List Path} {a : List Int} (h : together l a = true) : a.Pairwise (· < ·) := by
  rw [List.pairwise_iff_getElem]
  intro i j hi hj hij
  exact together_lt h (j - i - 1) i _ _ (List.getElem?_eq_getElem hi) (by rw [show i + (j - i - 1) + 1 = j by omega]; exact List.getElem?_eq_getElem hj)
def more (l : List Path) (a : List Int) (p : Path) : List Int := if together l (putI a p.id) = true then putI a p.id else a
theorem sm_nil : Sm ([] : List Int) := by unfold Sm; simp
def askStage (l : List Path) (x : Control) (st : List Int) : Control × Bool :=
  if canEnd l x && (!st.isEmpty && (together l st && !decide (st = x.stage))) then
    (if clearBetween l x.stage st = 0 then ⟨st, 0, [], 0⟩ else ⟨x.stage, x.since, st, clearBetween l x.stage st⟩, true) else (x, false)
theorem sAskStage_v (l : List Path) (x : Control) (st : List Int) (h : Sm l) (hx : SmControl x) (hs : Sm st) : S_sAskStage l x st = some (askStage l x st) := by
  have hs' := hs
  unfold Sm at hs'
  unfold S_sAskStage askStage
  simp only [rC_v, rws_path, rws_i, eta_Control, sl14Copy_v x hx, sCanEnd_v l x h hx, bnd_some, len_i, len0, sIsTogether_v l st h hs, sEqualInts_v st x.stage hs, sClearBetween_v l _ _ h hx.1 hs, clrs_i]
  cases canEnd l x with
  | false => simp [eta_Control]
  | true =>
  cases st.isEmpty with
  | true => simp [eta_Control]
  | false =>
  cases together l st with
  | false => simp [eta_Control]
  | true =>
  cases decide (st = x.stage) with
  | true => simp [eta_Control]
  | false =>
    simp only [Bool.not_true, Bool.not_false, cnd_ff, cnd_tt]
    rw [ifA_pos (by simp; omega)]
    by_cases c : clearBetween l x.stage st = 0
    · simp [c]
    · simp [c, show (clearBetween l x.stage st == 0) = false from beq_eq_false_iff_ne.2 c]
      rw [ifA_pos (by omega)]
theorem askStage_sm {l : List Path} {x : Control} {st : List Int} (hx : SmControl x) (hs : Sm st) : SmControl (askStage l x st).1 := by
  unfold askStage
  split
  · simp only
    split
    · exact ⟨hs, sm_nil⟩
    · exact ⟨hx.1, hs⟩
  · exact hx
theorem has_putI (a : List Int) (n x : Int) : has (putI a n) x = (has a x || n == x) := by
  unfold putI
  split
  · rename_i h
    have hm : n ∈ a := List.mem_of_getElem? h
    by_cases c : n = x
    · subst c
      have : has a n = true := by unfold has; exact List.any_eq_true.2 ⟨n, hm, by simp⟩
      rw [this]; rfl
    · rw [show (n == x) = false from beq_eq_false_iff_ne.2 c, Bool.or_false]
  · unfold ins has
    have e : a.any (fun y => y == x) = ((a.take (low a n)).any (fun y => y == x) || (a.drop (low a n)).any fun y => y == x) := by
      rw [← List.any_append, List.take_append_drop]
    rw [e]
    simp only [List.any_append, List.any_cons, List.any_nil, Bool.or_false]
    cases (a.take (low a n)).any (fun y => y == x) <;> cases (a.drop (low a n)).any (fun y => y == x) <;> cases (n == x) <;> rfl
theorem putI_len (a : List Int) (n : Int) : (putI a n).length ≤ a.length + 1 := by
  unfold putI
  split
  · omega
  · rw [ins_len]; exact Nat.le_refl _
theorem are_len {l : List Path} (h : arePaths l = true) : l.length ≤ 12 := by
  unfold arePaths at h
  rw [Bool.and_eq_true] at h
  exact of_decide_eq_true h.1
theorem appe_ilo {o p q : Own} (h0 : okO o p = true) (h1 : okO o q = true) (l : List (List Int)) (a : List Int) {β : Type} (K : List (List Int) → Option β) :
    rws (rOne (rX o 1 iR)) (l.map (rOne (rX p 1 iR)).enc ++ [[.slc q 1 (a.map iR.enc)]]) K = K (l ++ [a]) :=
  (rws_app (rOne (rX o 1 iR)) _ _ K).trans ((rws_il h0 l _).trans (rws_il h1 [a] fun l' => K (l ++ l')))
theorem goP_mem : ∀ {l : List Path} {o : Option Int}, goP o l = true → ∀ p ∈ l, isPath p = true
  | [], _, _, p, hp => by cases hp
  | q :: l, o, h, p, hp => by
    cases o with
    | none =>
      simp only [goP, Bool.and_eq_true] at h
      rcases List.mem_cons.1 hp with rfl | hp
      · exact h.1
      · exact goP_mem h.2 p hp
    | some i =>
      simp only [goP, Bool.and_eq_true] at h
      rcases List.mem_cons.1 hp with rfl | hp
      · exact h.1.1
      · exact goP_mem h.2 p hp
theorem find_mem {l : List Path} {id : Int} (h : ¬ findPath l id < 0) : ∃ p ∈ l, p.id = id := by
  unfold findPath at h
  split at h
  · rename_i i hi
    obtain ⟨hlt, hp, _⟩ := List.findIdx?_eq_some_iff_getElem.1 hi
    exact ⟨l[i], List.getElem_mem hlt, by simpa using hp⟩
  · omega
theorem frzss_map {σ : Type} {e e' : σ → List AV} (h : ∀ x, frzs (e x) = e' x) : ∀ l : List σ, frzss (l.map e) = l.map e'
  | [] => rfl
  | x :: l => by simp only [List.map_cons, frzss, h, frzss_map h l]
@[simp] theorem frzss_i (l : List Int) : frzss (l.map iR.enc) = l.map iR.enc := frzss_map (fun _ => rfl) l
@[simp] theorem frzss_path (l : List Path) : frzss (l.map pathR.enc) = l.map pathR.enc := frzss_map (fun _ => rfl) l
@[simp] theorem frzss_want (l : List Want) : frzss (l.map wantR.enc) = l.map wantR.enc := frzss_map (fun _ => rfl) l
@[simp] theorem frzss_lamp (l : List Lamp) : frzss (l.map lampR.enc) = l.map lampR.enc := frzss_map (fun _ => rfl) l
@[simp] theorem frzss_note (l : List Note) : frzss (l.map (noteR Own.unq).enc) = l.map (noteR Own.own).enc := frzss_map (fun x => by show frzs [I x.second, .slc Own.unq 1 (x.lights.map iR.enc), I x.sig] = [I x.second, .slc Own.own 1 (x.lights.map iR.enc), I x.sig]; simp [frzs, AV.frz]) l
@[simp] theorem appe_lamp (l : List Lamp) (a b : Int) (c : Bool) {β : Type} (K : List Lamp → Option β) : rws lampR (l.map lampR.enc ++ [[I a, I b, Bl c]]) K = K (l ++ [(⟨a, b, c⟩ : Lamp)]) :=
  (rws_app _ _ _ K).trans (rws_lamp l _)
theorem map_set' {σ τ : Type} (f : σ → τ) (l : List σ) (i : Nat) (x : σ) : (l.map f).set i (f x) = (l.set i x).map f := List.map_set.symm
@[simp] theorem rws_lset (l : List Lamp) (i : Nat) (a b : Int) (c : Bool) {β : Type} (K : List Lamp → Option β) : rws lampR ((l.map lampR.enc).set i [I a, I b, Bl c]) K = K (l.set i ⟨a, b, c⟩) := by
  have : (l.map lampR.enc).set i [I a, I b, Bl c] = (l.set i ⟨a, b, c⟩).map lampR.enc := map_set' lampR.enc l i ⟨a, b, c⟩
  exact (congrArg (fun z => rws lampR z K) this).trans (rws_lamp _ K)
def CurOk (g : L1Cur) : Prop := g.b.length ≤ 1048576 ∧ 0 ≤ g.i ∧ g.i ≤ g.b.length
def Gives {α : Type} (x : Option (α × L1Cur)) (P : α → Prop) : Prop := ∃ a g, x = some (a, g) ∧ P a ∧ CurOk g
theorem and255 (a : BitVec (Go.IntKind.bits Go.IntKind.i64)) : 0 ≤ W (BitVec.toNat (a &&& BitVec.ofInt (Go.IntKind.bits Go.IntKind.i64) 255)) ∧ W (BitVec.toNat (a &&& BitVec.ofInt (Go.IntKind.bits Go.IntKind.i64) 255)) ≤ 255 := by
  have h1 : BitVec.toNat (a &&& BitVec.ofInt (Go.IntKind.bits Go.IntKind.i64) 255) ≤ 255 := by
    rw [BitVec.toNat_and]
    have : BitVec.toNat (BitVec.ofInt (Go.IntKind.bits Go.IntKind.i64) 255) = 255 := by decide
    rw [this]
    exact Nat.and_le_right
  rw [W_id (by omega) (by omega)]
  omega
theorem sl1Byte_g {g : L1Cur} (h : CurOk g) : Gives (S_sl1Byte g) fun x => 0 ≤ x ∧ x ≤ 255 := by
  obtain ⟨h1, h2, h3⟩ := h
  unfold S_sl1Byte
  simp only [rws_y, geti_y, len_y]
  by_cases c : g.i < (g.b.length : Int)
  · rw [show decide (g.i < (g.b.length : Int)) = true by simpa using c, cnd_tt]
    have hlt : g.i.toNat < g.b.length := by omega
    have hx : g.b[g.i.toNat]? = some g.b[g.i.toNat] := List.getElem?_eq_getElem hlt
    have e : g.i = ((g.i.toNat : Nat) : Int) := by omega
    have hz : ∀ {β : Type} (K : Int → Option β), getZ g.b g.i K = K g.b[g.i.toNat] := fun K => by
      conv => lhs; rw [e]
      exact getZ_at hx K
    rw [hz]
    refine ⟨_, _, rfl, and255 _, h1, ?_, ?_⟩
    · show 0 ≤ W (g.i + 1)
      rw [W_id (by omega) (by omega)]; omega
    · show W (g.i + 1) ≤ _
      rw [W_id (by omega) (by omega)]; show g.i + 1 ≤ (g.b.length : Int); omega
  · rw [show decide (g.i < (g.b.length : Int)) = false by simpa using c, cnd_ff]
    exact ⟨_, _, rfl, and255 _, h1, h2, h3⟩
theorem sl1Below_g {g : L1Cur} (h : CurOk g) {n : Int} (h1 : n ≤ 256) : Gives (S_sl1Below n g) fun x => 0 ≤ x ∧ (1 ≤ n → x < n) ∧ (n ≤ 0 → x = 0) := by
  unfold S_sl1Below
  simp only [rws_y, eta_L1Cur]
  by_cases c : n ≤ 0
  · rw [show decide (n ≤ 0) = true by simpa using c, cnd_tt]
    exact ⟨_, _, rfl, ⟨Int.le_refl _, fun h => by omega, fun _ => rfl⟩, h⟩
  · rw [show decide (n ≤ 0) = false by simpa using c, cnd_ff, show decide (n ≤ 256) = true by simpa using h1, cnd_tt]
    obtain ⟨x, g', e, hx, hg⟩ := sl1Byte_g h
    rw [e, bnd_some, ifA_pos (by omega)]
    refine ⟨_, _, rfl, ⟨?_, fun _ => ?_, fun h => by omega⟩, hg⟩
    · exact Int.tmod_nonneg _ hx.1
    · have := Int.tmod_lt_of_pos x (show 0 < n by omega)
      exact this
theorem sl1Once_g {g : L1Cur} (h : CurOk g) {n : Int} (h1 : n ≤ 256) : Gives (S_sl1Once n g) fun _ => True := by
  unfold S_sl1Once
  simp only [rws_y, eta_L1Cur]
  obtain ⟨x, g', e, hx, hg⟩ := sl1Below_g h h1
  rw [e, bnd_some]
  exact ⟨_, _, rfl, trivial, hg⟩
theorem sl1Int_g {g : L1Cur} (h : CurOk g) {l : List Int} (h0 : 1 ≤ l.length) (h1 : l.length ≤ 256) {P : Int → Prop} (hP : ∀ x ∈ l, P x) : Gives (S_sl1Int l g) P := by
  unfold S_sl1Int
  simp only [rws_y, geti_i, len_i, eta_L1Cur]
  obtain ⟨x, g', e, hx, hg⟩ := sl1Below_g h (n := (l.length : Int)) (by omega)
  rw [e, bnd_some]
  have hlt := hx.2.1 (by omega)
  have hlt' : x.toNat < l.length := by omega
  have hz : ∀ {β : Type} (K : Int → Option β), getZ l x K = K l[x.toNat] := fun K => by
    have e : x = ((x.toNat : Nat) : Int) := by omega
    conv => lhs; rw [e]
    exact getZ_at (List.getElem?_eq_getElem hlt') K
  show Gives (getZ l x _) P
  rw [hz]
  exact ⟨_, _, rfl, hP _ (List.getElem_mem hlt'), hg⟩
theorem sl4Draw_g {g : L1Cur} (h : CurOk g) (id : Int) : Gives (S_sl4Draw id g) fun p => p.id = id ∧ isPath { p with id := 1 } = true := by
  unfold S_sl4Draw
  simp only [rws_y, eta_L1Cur]
  obtain ⟨x, g1, e1, hx, hg1⟩ := sl1Below_g h (n := 3) (by omega)
  rw [e1, bnd_some]
  obtain ⟨y, g2, e2, hy, hg2⟩ := sl1Below_g hg1 (n := 4) (by omega)
  rw [e2, bnd_some]
  have hx1 := hx.2.1 (by omega)
  have hy1 := hy.2.1 (by omega)
  rw [W_id (n := 1 + x) (by omega) (by omega)]
  by_cases c : 1 + x = 2
  · rw [show ((1 + x) != 2) = false by simpa using c, cnd_ff]
    refine ⟨_, _, rfl, ⟨rfl, ?_⟩, hg2⟩
    unfold isPath inR
    simp [c]
    omega
  · rw [show ((1 + x) != 2) = true by simpa using c, cnd_tt]
    obtain ⟨z, g3, e3, hz, hg3⟩ := sl1Below_g hg2 (n := 3) (by omega)
    rw [e3, bnd_some]
    have hz1 := hz.2.1 (by omega)
    refine ⟨_, _, rfl, ⟨rfl, ?_⟩, hg3⟩
    rw [W_id (n := y + 1) (by omega) (by omega), W_id (n := y + 1 + z) (by omega) (by omega)]
    unfold isPath inR
    have hm := Int.tmod_nonneg 4 (show 0 ≤ y + 1 + z by omega)
    have hm2 := Int.tmod_lt_of_pos (y + 1 + z) (show (0 : Int) < 4 by omega)
    have hne : y ≠ (y + 1 + z).tmod 4 := by
      rw [Int.tmod_eq_emod_of_nonneg (by omega)]
      omega
    simp only [beq_eq_false_iff_ne.2 hne, beq_eq_false_iff_ne.2 c]
    simp
    omega
theorem iter_ex {V β : Type} {F : (V → Option β) → V → Option β} {Q : β → Prop} (μ : V → Nat) (inv : V → Prop)
    (step : ∀ rec v, inv v → (∀ v', inv v' → μ v' < μ v → ∃ b, rec v' = some b ∧ Q b) → ∃ b, F rec v = some b ∧ Q b) : ∀ n v, inv v → μ v < n → ∃ b, iter F n v = some b ∧ Q b
  | 0, v, _, h => by omega
  | n + 1, v, hi, h => by
    rw [iter_succ]
    exact step _ v hi fun v' hi' hlt => iter_ex μ inv step n v' hi' (by omega)
theorem gives_iff {α : Type} {x : Option (α × L1Cur)} {P : α → Prop} : Gives x P ↔ ∃ b, x = some b ∧ (P b.1 ∧ CurOk b.2) :=
  ⟨fun ⟨a, g, e, h1, h2⟩ => ⟨(a, g), e, h1, h2⟩, fun ⟨b, e, h1, h2⟩ => ⟨b.1, b.2, e, h1, h2⟩⟩
def Drawn (l : List Path) : Prop := l.length ≤ 7 ∧ ∀ (i : Nat) (p : Path), l[i]? = some p → p.id = (i : Int) + 1 ∧ isPath { p with id := 1 } = true
theorem appe_path (l : List Path) (a b c d : Int) {β : Type} (K : List Path → Option β) : rws pathR (l.map pathR.enc ++ [[I a, I b, I c, I d]]) K = K (l ++ [(⟨a, b, c, d⟩ : Path)]) :=
  (rws_app _ _ _ K).trans (rws_path l _)
theorem sl1New_g (code : List Int) (h : code.length ≤ 1048576) : ∃ g, S_sl1New code = some ((), g) ∧ CurOk g := by
  unfold S_sl1New
  simp only [rws_y, len_y, geti_y]
  refine (fun ⟨⟨u, g⟩, e, hg⟩ => ⟨g, e, hg⟩ : (∃ b : Unit × L1Cur, _ = some b ∧ CurOk b.2) → _) ?_
  refine iter_ex (Q := fun b : Unit × L1Cur => CurOk b.2) (fun v : List Int × Int × Int => ((code.length : Int) - v.2.2).toNat) (fun v => v.1 = code ∧ 0 ≤ v.2.2 ∧ v.2.2 ≤ (code.length : Int)) ?_ NN _ ⟨rfl, Int.le_refl _, by show (0 : Int) ≤ code.length; omega⟩ (NN_big (by show ((code.length : Int) - 0).toNat ≤ _; omega))
  · rintro rec ⟨c, hh, i⟩ ⟨p1, hi0, hi1⟩ hrec
    simp only at p1 hi0 hi1 hrec ⊢
    subst p1
    by_cases c1 : i < (c.length : Int)
    · rw [show decide (i < (c.length : Int)) = true by simpa using c1, cnd_tt]
      by_cases c2 : i < 4000
      · rw [show decide (i < 4000) = true by simpa using c2, cnd_tt]
        have hlt : i.toNat < c.length := by omega
        have hz : ∀ {β : Type} (K : Int → Option β), getZ c i K = K c[i.toNat] := fun K => by
          have e : i = ((i.toNat : Nat) : Int) := by omega
          conv => lhs; rw [e]
          exact getZ_at (List.getElem?_eq_getElem hlt) K
        rw [hz]
        refine hrec (_, _, _) ⟨rfl, ?_, ?_⟩ ?_
        · show 0 ≤ W (i + 1)
          rw [W_id (by omega) (by omega)]; omega
        · show W (i + 1) ≤ _
          rw [W_id (by omega) (by omega)]; omega
        · show ((c.length : Int) - W (i + 1)).toNat < ((c.length : Int) - i).toNat
          rw [W_id (by omega) (by omega)]; omega
      · rw [show decide (i < 4000) = false by simpa using c2, cnd_ff]
        exact ⟨_, rfl, h, Int.le_refl _, by simp⟩
    · rw [show decide (i < (c.length : Int)) = false by simpa using c1, cnd_ff]
      exact ⟨_, rfl, h, Int.le_refl _, by simp⟩
theorem cross4 : ∀ a b c d : Fin 4, crossI (2 * ((a : Nat) : Int)) (2 * ((b : Nat) : Int) + 1) (2 * ((c : Nat) : Int)) (2 * ((d : Nat) : Int) + 1) = crossI (2 * ((c : Nat) : Int)) (2 * ((d : Nat) : Int) + 1) (2 * ((a : Nat) : Int)) (2 * ((b : Nat) : Int) + 1) := by
  decide
theorem fin4 {n : Int} (h : 0 ≤ n ∧ n ≤ 3) : ∃ a : Fin 4, n = ((a : Nat) : Int) := ⟨⟨n.toNat, by omega⟩, by simp; omega⟩
theorem isPath_r {p : Path} (h : isPath p = true) : (0 ≤ p.src ∧ p.src ≤ 3) ∧ (0 ≤ p.dst ∧ p.dst ≤ 3) := by
  unfold isPath inR at h
  simp only [Bool.and_eq_true, decide_eq_true_eq] at h
  exact ⟨h.1.1.2, h.1.2⟩
theorem conf_self (a : Path) : conflict a a = false := by
  unfold conflict
  split
  · rfl
  · split
    · rfl
    · rename_i h
      have h2 : ¬ a.kind = 2 := fun e => h ⟨e, e⟩
      simp [h2]
theorem conf_comm (a b : Path) : conflict a b = conflict b a := by
  cases ha : isPath a with
  | false => unfold conflict; simp [ha]
  | true =>
  cases hb : isPath b with
  | false => unfold conflict; simp [hb]
  | true =>
    obtain ⟨a1, a2⟩ := isPath_r ha
    obtain ⟨b1, b2⟩ := isPath_r hb
    obtain ⟨x, hx⟩ := fin4 a1
    obtain ⟨y, hy⟩ := fin4 a2
    obtain ⟨z, hz⟩ := fin4 b1
    obtain ⟨u, hu⟩ := fin4 b2
    have := cross4 x y z u
    unfold conflict
    simp only [ha, hb, Bool.true_eq_false, or_self, if_false]
    by_cases c1 : a.kind = 2 <;> by_cases c2 : b.kind = 2 <;> simp only [c1, c2, and_self, and_true, and_false, true_and, false_and, if_true, if_false]
    by_cases d1 : a.src = b.src
    · rw [if_pos d1, if_pos d1.symm]
    · rw [if_neg d1, if_neg (show ¬ b.src = a.src from fun e => d1 e.symm)]
      by_cases d2 : a.dst = b.dst
      · rw [if_pos d2, if_pos d2.symm]
      · rw [if_neg d2, if_neg (show ¬ b.dst = a.dst from fun e => d2 e.symm), hx, hy, hz, hu]
        exact this
theorem lbig_v (c : List Int) : S_lbig c = some (decide ((c.length : Int) > 1048576)) := by
  unfold S_lbig
  simp only [len_y]
theorem sl4Raw_g {g : L1Cur} (h : CurOk g) : Gives (S_sl4Raw g) fun _ => True := by
  unfold S_sl4Raw
  simp only [rws_y, eta_L1Cur]
  obtain ⟨k, g1, e1, _, hg1⟩ := sl1Int_g h (l := [Neg.neg 1, 0, 4, 7, 20, 21, 9223372036854775807, Neg.neg 9223372036854775808]) (by simp) (by simp) (P := fun _ => True) (fun _ _ => trivial)
  rw [e1, bnd_some]
  exact ⟨_, _, rfl, trivial, hg1⟩
theorem sl4Any_g {g : L1Cur} (h : CurOk g) : Gives (S_sl4Any g) fun _ => True := by
  unfold S_sl4Any
  simp only [rws_y, eta_L1Cur]
  obtain ⟨k, g1, e1, _, hg1⟩ := sl1Below_g h (n := 20) (by omega)
  rw [e1, bnd_some]
  obtain ⟨p, g2, e2, _, hg2⟩ := sl4Draw_g hg1 (W (1 + k))
  rw [e2, bnd_some]
  obtain ⟨m, g3, e3, _, hg3⟩ := sl1Below_g hg2 (n := 10) (by omega)
  rw [e3, bnd_some]
  obtain ⟨a, g4, e4, _, hg4⟩ := sl1Int_g hg3 (l := [0, 20, 21]) (by simp) (by simp) (P := fun _ => True) (fun _ _ => trivial)
  obtain ⟨b, g5, e5, _, hg5⟩ := sl1Int_g hg3 (l := [0, 2, 4]) (by simp) (by simp) (P := fun _ => True) (fun _ _ => trivial)
  obtain ⟨c, g6, e6, _, hg6⟩ := sl4Raw_g hg3
  simp only [e4, e5, e6, bnd_some, cnd_if]
  split
  · exact ⟨_, _, rfl, trivial, hg4⟩
  split
  · exact ⟨_, _, rfl, trivial, hg5⟩
  split
  · exact ⟨_, _, rfl, trivial, hg6⟩
  split
  · exact ⟨_, _, rfl, trivial, hg6⟩
  · exact ⟨_, _, rfl, trivial, hg3⟩
theorem goT_clash {l : List Path} {ids : List Int} : ∀ {r : List Int} {k : Nat}, goT l ids k r = true → ∀ (i : Nat) (x : Int), r[i]? = some x → (ids.take (k + i)).all (noClash l x) = true
  | [], _, _, i, x, hx => by simp at hx
  | y :: r, k, h, i, x, hx => by
    simp only [goT, Bool.and_eq_true] at h
    cases i with
    | zero => simp at hx; subst hx; exact h.1.2
    | succ i =>
      have := goT_clash h.2 i x (by simpa using hx)
      rwa [show k + 1 + i = k + (i + 1) by omega] at this
theorem together_pair {l : List Path} {a : List Int} (h : together l a = true) {x y : Int} (hx : x ∈ a) (hy : y ∈ a) : conflict (pathAt l x) (pathAt l y) = false := by
  unfold together at h
  rw [Bool.and_eq_true] at h
  obtain ⟨i, hi⟩ := List.getElem?_of_mem hx
  obtain ⟨j, hj⟩ := List.getElem?_of_mem hy
  have key : ∀ {i j : Nat} {x y : Int}, a[i]? = some x → a[j]? = some y → j < i → conflict (pathAt l x) (pathAt l y) = false := fun {i j x y} hi hj c => by
    have h1 := goT_clash h.1 i x hi
    have hm : y ∈ a.take (0 + i) := by
      rw [Nat.zero_add, List.mem_iff_getElem?]
      exact ⟨j, by rw [List.getElem?_take, if_pos c]; exact hj⟩
    have := List.all_eq_true.1 h1 _ hm
    unfold noClash at this
    simpa using this
  rcases Nat.lt_trichotomy i j with c | c | c
  · rw [conf_comm]; exact key hj hi c
  · subst c
    rw [hi] at hj
    cases hj
    exact conf_self _
  · exact key hi hj c
theorem find_own' {l : List Path} {x : Path} (hx : x ∈ l) : ¬ findPath l x.id < 0 := by
  unfold findPath
  split
  · omega
  · rename_i hn
    have := List.findIdx?_eq_none_iff.1 hn x hx
    simp at this
theorem goP_asc : ∀ (l : List Path) (pv : Option Int), goP pv l = true → (∀ x ∈ l, ∀ a, pv = some a → a < x.id) ∧ l.Pairwise (fun x y => x.id < y.id)
  | [], _, _ => ⟨by simp, .nil⟩
  | x :: l, pv, h => by
    have h2 : goP (some x.id) l = true := by cases pv <;> · unfold goP at h; simp at h; simp [h]
    obtain ⟨g1, g2⟩ := goP_asc l _ h2
    have hx : ∀ a, pv = some a → a < x.id := fun a e => by
      subst e
      unfold goP at h
      simp at h
      exact h.1.2
    refine ⟨fun y hy a e => ?_, List.pairwise_cons.2 ⟨fun y hy => g1 y hy x.id rfl, g2⟩⟩
    rcases List.mem_cons.1 hy with rfl | hy
    · exact hx a e
    · have := g1 y hy x.id rfl
      have := hx a e
      omega
theorem are_go {l : List Path} (h : arePaths l = true) : goP none l = true := by
  unfold arePaths at h
  rw [Bool.and_eq_true] at h
  exact h.2
theorem own_at {l : List Path} (h : arePaths l = true) {x : Path} (hx : x ∈ l) : pathAt l x.id = x := by
  obtain ⟨k, hx⟩ := List.getElem?_of_mem hx
  obtain ⟨i, y, h1, h2, h3⟩ := findPath_lt (find_own' (List.mem_of_getElem? hx))
  have hy : pathAt l x.id = y := by unfold pathAt; rw [h2, Int.toNat_natCast, h1]; rfl
  rw [hy]
  have hp := (goP_asc l none (are_go h)).2
  rcases Nat.lt_trichotomy i k with c | c | c
  · have := (List.pairwise_iff_getElem.1 hp) i k (List.getElem?_eq_some_iff.1 h1).1 (List.getElem?_eq_some_iff.1 hx).1 c
    rw [(List.getElem?_eq_some_iff.1 h1).2, (List.getElem?_eq_some_iff.1 hx).2] at this
    omega
  · subst c
    rw [h1] at hx
    exact Option.some.inj hx
  · have := (List.pairwise_iff_getElem.1 hp) k i (List.getElem?_eq_some_iff.1 hx).1 (List.getElem?_eq_some_iff.1 h1).1 c
    rw [(List.getElem?_eq_some_iff.1 h1).2, (List.getElem?_eq_some_iff.1 hx).2] at this
    omega
theorem has_mem {a : List Int} {n : Int} : has a n = true ↔ n ∈ a := by
  unfold has
  rw [List.any_eq_true]
  constructor
  · rintro ⟨x, hx, h⟩
    have : x = n := by simpa using h
    exact this ▸ hx
  · intro h
    exact ⟨n, h, by simp⟩
def fullStage (l : List Path) (ids : List Int) : Bool := (l.all fun p => has ids p.id || !together l (putI ids p.id)) && together l ids
theorem putI_smL {a : List Int} {n : Int} (h : a.length ≤ 1000) : Sm (putI a n) := by have := putI_len a n; unfold Sm; omega
theorem sIsFullStage_v (l : List Path) (ids : List Int) (h : Sm l) (hi : ids.length ≤ 1000) : S_sIsFullStage l ids = some (fullStage l ids) := by
  have hl := h
  unfold Sm at hl
  have hs : Sm ids := by unfold Sm; omega
  unfold S_sIsFullStage
  simp only [rws_path, rws_i, len_path]
  refine (all_loop l (fun p => has ids p.id || !together l (putI ids p.id)) (by omega) (fun k => (l, ids, (k : Int))) (some (together l ids)) (some false) rfl ?_ ?_).trans ?_
  · intro rec
    simp [sIsTogether_v l ids h hs]
  · intro rec k p hx hk
    simp only [show decide ((k : Int) < (l.length : Int)) = true by simpa using hk, cnd_tt, geti_path, getZ_at hx, sl6Has_v _ _ hs, bnd_some, rws_path, rws_i, sl6Put_v ids p.id hs, sIsTogether_v l _ h (putI_smL hi), W_n1 (show k ≤ 9223372036854775806 by omega), Int.natCast_succ]
    cases has ids p.id with
    | true => simp
    | false =>
      cases together l (putI ids p.id) <;> simp
  · unfold fullStage
    cases (l.all fun p => has ids p.id || !together l (putI ids p.id)) <;> simp
def search (l : List Path) : List Path → List Int → List (List Int) → List (List Int)
  | [], ids, out => if ids ≠ [] ∧ out.length < 40 ∧ fullStage l ids = true then out ++ [ids] else out
  | p :: r, ids, out => search l r ids (if together l (ids ++ [p.id]) = true then search l r (ids ++ [p.id]) out else out)
theorem search_len (l : List Path) : ∀ (r : List Path) (ids : List Int) (out : List (List Int)), out.length ≤ 40 → (search l r ids out).length ≤ 40
  | [], ids, out, h => by
    unfold search
    split
    · rename_i c; simp; omega
    · exact h
  | p :: r, ids, out, h => by
    unfold search
    refine search_len l r ids _ ?_
    split
    · exact search_len l r _ out h
    · exact h
theorem search_mem (l : List Path) : ∀ (r : List Path) (ids : List Int) (out : List (List Int)), ∀ s ∈ search l r ids out, s ∈ out ∨ (s.length ≤ ids.length + r.length ∧ fullStage l s = true ∧ s ≠ [])
  | [], ids, out, s, h => by
    unfold search at h
    split at h
    · rename_i c
      rcases List.mem_append.1 h with h | h
      · exact .inl h
      · rw [List.mem_singleton.1 h]; exact .inr ⟨by simp, c.2.2, c.1⟩
    · exact .inl h
  | p :: r, ids, out, s, h => by
    unfold search at h
    rcases search_mem l r ids _ s h with h | h
    · split at h
      · rcases search_mem l r _ out s h with h | h
        · exact .inl h
        · refine .inr ⟨?_, h.2⟩
          have := h.1
          simp at this ⊢
          omega
      · exact .inl h
    · refine .inr ⟨?_, h.2⟩
      have := h.1
      simp
      omega
theorem search_v (l : List Path) (hl : l.length ≤ 12) : ∀ (m k : Nat) (ids : List Int) (out : List (List Int)), l.length - k < m → k ≤ l.length → ids.length ≤ k → out.length ≤ 40 → S_sl6Search_n m l (k : Int) ids out = some (search l (l.drop k) ids out)
  | 0, k, ids, out, h, _, _, _ => by omega
  | m + 1, k, ids, out, h, hk, hi, ho => by
    have h' : Sm l := by unfold Sm; omega
    show S_sl6Search_F (S_sl6Search_n m) l (k : Int) ids out = _
    unfold S_sl6Search_F
    simp only [rws_path, rws_i, rws_il_oo, len_path, len_i, len_il]
    by_cases c : k = l.length
    · subst c
      rw [show (((l.length : Nat) : Int) == ((l.length : Nat) : Int)) = true by simp, cnd_tt, List.drop_length]
      unfold search
      by_cases c1 : ids = []
      · subst c1
        simp
      · have hp : 0 < ids.length := List.length_pos_iff.2 c1
        rw [show decide (((ids.length : Nat) : Int) > 0) = true from decide_eq_true (by omega), cnd_tt]
        by_cases c2 : out.length < 40
        · rw [show decide (((out.length : Nat) : Int) < 40) = true from decide_eq_true (by omega), cnd_tt, sIsFullStage_v l ids h' (by omega), bnd_some]
          cases hf : fullStage l ids with
          | true =>
            rw [cnd_tt, ifA_pos (by simp; omega), ifA_pos (by simp; omega), if_pos ⟨c1, c2, rfl⟩]
            have := appe_ilo (o := .own) (p := .own) (q := .own) rfl rfl out ids (fun l => some l)
            first
            | exact this
            | simpa using this
          | false => rw [cnd_ff, if_neg (fun h => by simp at h)]
        · rw [show decide (((out.length : Nat) : Int) < 40) = false from decide_eq_false (by omega), cnd_ff, if_neg (fun h => c2 h.2.1)]
    · have hlt : k < l.length := by omega
      have hx := List.getElem?_eq_getElem hlt
      rw [show (((k : Nat) : Int) == ((l.length : Nat) : Int)) = false by simp; omega, cnd_ff, ifA_pos (by simp; omega)]
      rw [List.drop_eq_getElem_cons hlt]
      generalize l[k] = p at hx
      have hs1 : Sm (ids ++ [p.id]) := by unfold Sm; simp; omega
      simp only [geti_path, getZ_at hx]
      rw [ifA_pos (by simp; omega)]
      have hW : W ((k : Int) + 1) = ((k + 1 : Nat) : Int) := by rw [W_n1 (by omega)]; omega
      simp only [List.nil_append, clrs_i, rws_app_i', hW]
      unfold search
      rw [sIsTogether_v l _ h' hs1, bnd_some]
      cases ht : together l (ids ++ [p.id]) with
      | true =>
        rw [cnd_tt, search_v l hl m (k + 1) (ids ++ [p.id]) out (by omega) (by omega) (by simp; omega) ho, bnd_some]
        simp only [rws_il_oo]
        rw [search_v l hl m (k + 1) ids _ (by omega) (by omega) (by omega) (search_len l _ _ _ ho), bnd_some]
        simp only [rws_il_oo, if_true]
      | false =>
        rw [cnd_ff, search_v l hl m (k + 1) ids out (by omega) (by omega) (by omega) ho, bnd_some]
        simp [rws_il_oo]
def stagesOf (l : List Path) : List (List Int) := if arePaths l = true then search l l [] [] else []
theorem sStagesOf_v (l : List Path) (h : Sm l) : S_sStagesOf l = some (stagesOf l) := by
  unfold S_sStagesOf stagesOf
  simp only [rws_path, sArePaths_v l h, bnd_some]
  cases ha : arePaths l with
  | false => rfl
  | true =>
    have hs := search_v l (are_len ha) 64 0 [] [] (by have := are_len ha; omega) (by omega) (by simp) (by simp)
    simp only [List.drop_zero] at hs
    simp only [Bool.not_true, cnd_ff, if_true]
    rw [show S_sl6Search l 0 [] [] = S_sl6Search_n 64 l ((0 : Nat) : Int) [] [] from rfl, hs, bnd_some]
    simp only [rws_il_oo]
theorem stagesOf_sm (l : List Path) : (stagesOf l).length ≤ 40 ∧ ∀ s ∈ stagesOf l, s.length ≤ 12 := by
  unfold stagesOf
  split
  · rename_i h
    refine ⟨search_len l l [] [] (by simp), fun s hs => ?_⟩
    rcases search_mem l l [] [] s hs with h1 | h1
    · cases h1
    · have := are_len h
      have := h1.1
      simp at this
      omega
  · exact ⟨by simp, fun s hs => (by cases hs)⟩
theorem gives_iter {A α V : Type} {F : (V → Option (α × L1Cur)) → V → Option (α × L1Cur)} {P : α → Prop} (st : Nat → A → L1Cur → V) (N : Nat) (J : Nat → A → Prop)
    (h0 : ∀ rec a g, J N a → CurOk g → Gives (F rec (st N a g)) P)
    (h1 : ∀ rec k a g, k < N → J k a → CurOk g → (∀ a' g', J (k + 1) a' → CurOk g' → Gives (rec (st (k + 1) a' g')) P) → Gives (F rec (st k a g)) P) :
    ∀ (n k : Nat) (a : A) (g : L1Cur), N - k < n → k ≤ N → J k a → CurOk g → Gives (iter F n (st k a g)) P
  | 0, k, a, g, h, _, _, _ => by omega
  | n + 1, k, a, g, h, hk, hJ, hg => by
    rw [iter_succ]
    by_cases c : k = N
    · subst c; exact h0 _ a g hJ hg
    · exact h1 _ k a g (by omega) hJ hg fun a' g' hJ' hg' => gives_iter st N J h0 h1 n (k + 1) a' g' (by omega) (by omega) hJ' hg'
theorem gives_run {A α V : Type} {F : (V → Option (α × L1Cur)) → V → Option (α × L1Cur)} {P : α → Prop} {v : V} (st : Nat → A → L1Cur → V) (N : Nat) (J : Nat → A → Prop) (a : A) (g : L1Cur) (hv : v = st 0 a g) (hN : N ≤ 1099511627776) (hJ : J 0 a) (hg : CurOk g)
    (h0 : ∀ rec a g, J N a → CurOk g → Gives (F rec (st N a g)) P)
    (h1 : ∀ rec k a g, k < N → J k a → CurOk g → (∀ a' g', J (k + 1) a' → CurOk g' → Gives (rec (st (k + 1) a' g')) P) → Gives (F rec (st k a g)) P) : Gives (iter F NN v) P := by
  rw [hv]
  exact gives_iter st N J h0 h1 NN 0 a g (NN_big (by omega)) (Nat.zero_le _) hJ hg
theorem gives_some {α : Type} {a : α} {g : L1Cur} {P : α → Prop} (h : P a) (hg : CurOk g) : Gives (some (a, g)) P := ⟨a, g, rfl, h, hg⟩
theorem appe_want1 (l : List Want) (a b : Int) {β : Type} (K : List Want → Option β) : rws wantR (l.map wantR.enc ++ [[I a, I b]]) K = K (l ++ [(⟨a, b⟩ : Want)]) := appe_want l a b K
theorem ltN {k n : Nat} (h : k < n) : decide ((k : Int) < (n : Int)) = true := by simpa using h
theorem ltNF (n : Nat) : decide ((n : Int) < (n : Int)) = false := by simp
theorem stage_at {st : List (List Int)} {r : Int} (h0 : 0 ≤ r) (h1 : r < (st.length : Int)) : ∃ s, s ∈ st ∧ ∀ {β : Type} (K : List Int → Option β), getZ st r K = K s := by
  have hlt : r.toNat < st.length := by omega
  refine ⟨st[r.toNat], List.getElem_mem hlt, fun K => ?_⟩
  have e : r = ((r.toNat : Nat) : Int) := by omega
  conv => lhs; rw [e]
  exact getZ_at (List.getElem?_eq_getElem hlt) K
theorem sl14Draw_g {g : L1Cur} (h : CurOk g) {l : List Path} (hl : Sm l) : Gives (S_sl14Draw l g) SmControl := by
  obtain ⟨n40, hs⟩ := stagesOf_sm l
  unfold S_sl14Draw
  simp only [rws_y, rws_path, eta_L1Cur, sStagesOf_v l hl, bnd_some, len_il, geti_il_so, rC_v, eta_Control]
  by_cases c : stagesOf l = []
  · rw [c]
    exact gives_some (by constructor <;> (unfold Sm; simp)) h
  have hp : 0 < (stagesOf l).length := List.length_pos_iff.2 c
  rw [show (((stagesOf l).length : Int) == 0) = false by simp; omega, cnd_ff]
  obtain ⟨r, g1, e1, hr, hg1⟩ := sl1Below_g h (n := ((stagesOf l).length : Int)) (by omega)
  rw [e1, bnd_some]
  obtain ⟨s, hsm, hk⟩ := stage_at hr.1 (hr.2.1 (by omega))
  have hsl := hs s hsm
  have hss : Sm s := by unfold Sm; omega
  have h0 : Sm ([] : List Int) := by unfold Sm; simp
  dsimp only
  rw [hk, ifA_pos (by simp; omega)]
  obtain ⟨k, g2, e2, _, hg2⟩ := sl1Below_g hg1 (n := 12) (by omega)
  rw [e2, bnd_some]
  obtain ⟨b, g3, e3, _, hg3⟩ := sl1Once_g hg2 (n := 3) (by omega)
  rw [e3, bnd_some]
  simp only [clrs_i, rws_i]
  cases b with
  | false => rw [cnd_ff]; exact gives_some ⟨hss, h0⟩ hg3
  | true =>
    rw [cnd_tt]
    obtain ⟨q, g4, e4, hq, hg4⟩ := sl1Below_g hg3 (n := ((stagesOf l).length : Int)) (by omega)
    rw [e4, bnd_some]
    obtain ⟨s2, hsm2, hk2⟩ := stage_at hq.1 (hq.2.1 (by omega))
    have hss2 : Sm s2 := by have := hs s2 hsm2; unfold Sm; omega
    dsimp only
    rw [hk2]
    have hx : SmControl ⟨s, k, [], 0⟩ := ⟨hss, h0⟩
    rw [sAskStage_v l _ s2 hl hx hss2, bnd_some]
    obtain ⟨m, g5, e5, hm, hg5⟩ := sl1Below_g hg4 (n := 3) (by omega)
    rw [e5, bnd_some]
    have hm1 := hm.2.1 (by omega)
    have hm0 := hm.1
    refine gives_run (fun j (x : Control) g => ((l, (m - (j : Int))), ((⟨[], 0, [], 0⟩ : Control), x), g)) m.toNat (fun _ x => SmControl x) (askStage l ⟨s, k, [], 0⟩ s2).1 g5 (by simp) (by omega) (askStage_sm hx hss2) hg5 ?_ ?_
    · intro rec x g hJ hg
      rw [show decide (m - ((m.toNat : Nat) : Int) > 0) = false from decide_eq_false (by omega), cnd_ff]
      exact gives_some hJ hg
    · intro rec j x g hj hJ hg hrec
      rw [show decide (m - (j : Int) > 0) = true from decide_eq_true (by omega), cnd_tt]
      simp only [sTickControl_v l x hl hJ, bnd_some, rC_v, eta_Control]
      rw [show W (m - (j : Int) - 1) = m - ((j + 1 : Nat) : Int) by rw [W_id (by omega) (by omega)]; omega]
      exact hrec _ _ (tick_sm hJ) hg
theorem noteLights_len {l : List Note} {s : Int} {v : List Int} : (noteLights l s v).1.length ≤ l.length + 1 := by
  unfold noteLights addEntry
  repeat' split
  all_goals simp
theorem noteLights_mem {l : List Note} {s : Int} {v : List Int} : ∀ y ∈ (noteLights l s v).1, y ∈ l ∨ y.lights = v := by
  intro y hy
  unfold noteLights addEntry at hy
  repeat' split at hy
  all_goals first
    | exact .inl hy
    | (rcases List.mem_append.1 hy with hy | hy
       · exact .inl hy
       · rw [List.mem_singleton.1 hy]; exact .inr rfl)
theorem sl27Draw_g {g : L1Cur} (h : CurOk g) {n : Int} (h0 : 0 ≤ n) (h1 : n ≤ 100) : Gives (S_sl27Draw_u n g) fun l => (SmR l ∧ ∀ y ∈ l, (y.lights.length : Int) = n) ∧ l.length ≤ 8 := by
  unfold S_sl27Draw_u
  simp only [rws_y, rws_note_uu, rws_i, len_i, eta_L1Cur]
  obtain ⟨t, g1, e1, _, hg1⟩ := sl1Below_g h (n := 5) (by omega)
  rw [e1, bnd_some]
  obtain ⟨m, g2, e2, hm, hg2⟩ := sl1Below_g hg1 (n := 8) (by omega)
  rw [e2, bnd_some]
  have hm1 := hm.2.1 (by omega)
  have hm0 := hm.1
  refine gives_run (fun j (a : List Note × Int) g => (((), (n, (a.1, (a.2, m - (j : Int))))), g)) m.toNat (fun j a => (SmR a.1 ∧ ∀ y ∈ a.1, (y.lights.length : Int) = n) ∧ a.1.length ≤ j) ([], t) g2 (by simp) (by omega) ⟨⟨smR_nil, fun y hy => by cases hy⟩, Nat.le_refl _⟩ hg2 ?_ ?_
  · intro rec a g hJ hg
    simp only
    rw [show decide (m - ((m.toNat : Nat) : Int) > 0) = false from decide_eq_false (by omega), cnd_ff]
    exact gives_some ⟨hJ.1, by have := hJ.2; omega⟩ hg
  · intro rec j a g hj hJ hg hrec
    simp only
    rw [show decide (m - (j : Int) > 0) = true from decide_eq_true (by omega), cnd_tt]
    refine gives_run (fun k (x : List Int) g => (((), (n, (a.1, (a.2, (m - (j : Int), (x, (k : Int))))))), g)) n.toNat (fun k x => x.length = k) [] g rfl (by omega) rfl hg ?_ ?_
    · intro rec2 x g hx hg
      simp only
      rw [show decide (((n.toNat : Nat) : Int) < n) = false from decide_eq_false (by omega), cnd_ff]
      have hxs : Sm x := by unfold Sm; omega
      have ha : a.1.length ≤ 8 := by have := hJ.2; omega
      simp only [borss_note, borss_i, rws_note_ss, rws_i, sNoteLights_v a.1 a.2 x hJ.1.1 (by omega) hxs, bnd_some, AV.okU, okUs, okUss_note, Bool.and_self, toUss_note, rws_note_uu]
      rw [ifA_pos trivial]
      obtain ⟨q, g3, e3, _, hg3⟩ := sl1Below_g hg (n := 9) (by omega)
      rw [e3, bnd_some]
      rw [show W (m - (j : Int) - 1) = m - ((j + 1 : Nat) : Int) by rw [W_id (by omega) (by omega)]; omega]
      exact hrec (_, _) _ ⟨⟨noteLights_sm hJ.1.1 (by omega) hxs, fun y hy => by
        rcases noteLights_mem y hy with h2 | h2
        · exact hJ.1.2 y h2
        · rw [h2, hx]; omega⟩, by have := noteLights_len (l := a.1) (s := a.2) (v := x); have := hJ.2; show (noteLights a.1 a.2 x).1.length ≤ _; omega⟩ hg3
    · intro rec2 k x g hk hx hg hrec2
      simp only
      rw [show decide (((k : Nat) : Int) < n) = true from decide_eq_true (by omega), cnd_tt]
      obtain ⟨q, g3, e3, _, hg3⟩ := sl1Below_g hg (n := 3) (by omega)
      rw [e3, bnd_some, ifA_pos (by simp; omega)]
      simp only [rws_app_i', W_n1 (show k ≤ 9223372036854775806 by omega)]
      simp only [Int.natCast_succ] at hrec2
      exact hrec2 _ _ (by simp; omega) hg3
theorem frzss_set : ∀ (xs : List (List AV)) (i : Nat) (r : List AV), frzss (xs.set i r) = (frzss xs).set i (frzs r)
  | [], _, _ => rfl
  | x :: xs, 0, r => rfl
  | x :: xs, i + 1, r => by simp only [List.set_cons_succ, frzss, frzss_set xs i r]
theorem smR_set {l : List Note} {i : Nat} {x : Note} (h : SmR l) (hx : Sm x.lights) : SmR (l.set i x) := by
  refine ⟨by have := h.1; unfold Sm at this ⊢; rw [List.length_set]; exact this, fun y hy => ?_⟩
  rcases List.mem_or_eq_of_mem_set hy with h2 | rfl
  · exact h.2 y h2
  · exact hx
theorem getn_raw3 {β : Type} {xs : List (List AV)} {i : Nat} {a b c : AV} (hi : i < xs.length) (K : AV × (AV × AV) → Option β) : getn (rawK 3) (xs.set i [a, b, c]) i K = K (a, (b, c)) := by
  unfold getn
  rw [List.getElem?_set_self hi]
  rfl
theorem sl27Any_g {g : L1Cur} (h : CurOk g) : Gives (S_sl27Any g) SmR := by
  unfold S_sl27Any
  simp only [rws_y, eta_L1Cur, len_note, frzss_note, rws_note_oo]
  obtain ⟨n, g1, e1, hn, hg1⟩ := sl1Below_g h (n := 4) (by omega)
  rw [e1, bnd_some]
  have hn1 := hn.2.1 (by omega)
  have hn0 := hn.1
  have hW : W (1 + n) = 1 + n := W_id (by omega) (by omega)
  obtain ⟨l, g2, e2, ⟨⟨hl, hln⟩, hl8⟩, hg2⟩ := sl27Draw_g hg1 (n := 1 + n) (by omega) (by omega)
  dsimp only
  rw [hW, e2, bnd_some]
  dsimp only
  by_cases c : l = []
  · subst c
    exact gives_some smR_nil hg2
  have hp : 0 < l.length := List.length_pos_iff.2 c
  rw [show (((l.length : Nat) : Int) == 0) = false by simp; omega, cnd_ff]
  obtain ⟨r, g3, e3, hr, hg3⟩ := sl1Below_g hg2 (n := ((l.length : Nat) : Int)) (by omega)
  rw [e3, bnd_some]
  have hr1 := hr.2.1 (by omega)
  have hr0 := hr.1
  have hlt : r.toNat < l.length := by omega
  have hx := List.getElem?_eq_getElem hlt
  generalize l[r.toNat] = p at hx
  have hpl : Sm p.lights := hl.2 p (List.mem_of_getElem? hx)
  have hpn := hln p (List.mem_of_getElem? hx)
  have hpl' := hpl
  unfold Sm at hpl'
  obtain ⟨q, g4, e4, _, hg4⟩ := sl1Below_g hg3 (n := 9) (by omega)
  rw [e4, bnd_some]
  obtain ⟨a, g5, e5, _, hg5⟩ := sl1Int_g hg4 (l := [Neg.neg 1, 0, 1000000, 1000001]) (by simp) (by simp) (P := fun _ => True) (fun _ _ => trivial)
  obtain ⟨b, g6, e6, _, hg6⟩ := sl1Int_g hg4 (l := [Neg.neg 1, 3]) (by simp) (by simp) (P := fun _ => True) (fun _ _ => trivial)
  simp only [e5, e6, bnd_some, getn_note_uu, getN_at hx, frzss_set, frzss_note, frzs, AV.frz, frzss_i, List.length_set, len_note]
  have hcond : (0 ≤ r ∧ r < ((l.length : Nat) : Int)) := ⟨hr0, hr1⟩
  simp only [ifA_pos hcond, cnd_if]
  split
  · rw [set_note_ooo]
    exact gives_some (smR_set hl hpl) hg5
  split
  · rw [ifA_pos (by simp; omega), getn_raw3 (by rw [len_note]; exact hlt)]
    rw [List.set_set]
    have e : List.map iR.enc p.lights ++ [[I 1]] = (p.lights ++ [1]).map iR.enc := (List.map_append (f := iR.enc) (l₁ := p.lights) (l₂ := [(1 : Int)])).symm
    rw [e]
    refine (congrArg (fun z => Gives z SmR) (set_note_ooo l r.toNat p.second (p.lights ++ [1]) p.sig fun l7 => some (l7, g4))).mpr ?_
    exact gives_some (smR_set hl (by show Sm (p.lights ++ [1]); unfold Sm; simp; omega)) hg4
  split
  · rw [set_note_ooo]
    exact gives_some (smR_set hl hpl) hg4
  split
  · have h0 : 0 < p.lights.length := by omega
    have hx0 := List.getElem?_eq_getElem h0
    simp only [borss_i, geti_i, getZ0 hx0, Int.toNat_zero, getn_i, getN_at hx0]
    have e : (p.lights.map iR.enc).set 0 [I b] = (p.lights.set 0 b).map iR.enc := (List.map_set (f := iR.enc) (l := p.lights) (i := 0) (a := b)).symm
    rw [e, set_note_ooo]
    exact gives_some (smR_set hl (by show Sm (p.lights.set 0 b); unfold Sm; rw [List.length_set]; omega)) hg6
  · exact gives_some hl hg4
def Ind (l : List Path) (a : List Int) : Prop := (∀ x ∈ a, ∃ p ∈ l, p.id = x) ∧ a.Pairwise (· < ·) ∧ ∀ x ∈ a, ∀ y ∈ a, conflict (pathAt l x) (pathAt l y) = false
theorem goT_of {l : List Path} {ids : List Int} (h : Ind l ids) : ∀ (r : List Int) (k : Nat), ids.drop k = r → goT l ids k r = true
  | [], _, _ => rfl
  | x :: r, k, hd => by
    have hk : ids[k]? = some x := by
      have : (ids.drop k)[0]? = some x := by rw [hd]; rfl
      rw [List.getElem?_drop] at this
      exact this
    have hx : x ∈ ids := List.mem_of_getElem? hk
    obtain ⟨p, hp, hpx⟩ := h.1 x hx
    have h1 : ¬ findPath l x < 0 := by rw [← hpx]; exact find_own' hp
    have h2 : prevOk ids k x = true := by
      unfold prevOk
      split
      · rfl
      · rename_i hk0
        have hlt : k < ids.length := (List.getElem?_eq_some_iff.1 hk).1
        have hk1 : k - 1 < ids.length := by omega
        rw [List.getElem?_eq_getElem hk1]
        have := (List.pairwise_iff_getElem.1 h.2.1) (k - 1) k hk1 hlt (by omega)
        rw [(List.getElem?_eq_some_iff.1 hk).2] at this
        simpa using this
    have h3 : (ids.take k).all (noClash l x) = true := List.all_eq_true.2 fun y hy => by
      unfold noClash
      rw [h.2.2 x hx y (List.mem_of_mem_take hy)]
      rfl
    have h4 := goT_of h r (k + 1) (by rw [← List.drop_drop, hd]; rfl)
    unfold goT
    rw [h2, h3, h4]
    simpa using h1
theorem together_iff {l : List Path} (hl : arePaths l = true) {a : List Int} : together l a = true ↔ Ind l a :=
  ⟨fun h => ⟨fun x hx => by
      obtain ⟨p, hp, e⟩ := find_mem (together_find h x hx)
      exact ⟨p, hp, e⟩, together_sorted h, fun x hx y hy => together_pair h hx hy⟩,
    fun h => by
      unfold together
      rw [goT_of h a 0 rfl, hl]
      rfl⟩
theorem putI_sorted {a : List Int} (h : a.Pairwise (· < ·)) (n : Int) : (putI a n).Pairwise (· < ·) := by
  unfold putI
  split
  · exact h
  · rename_i hn
    unfold ins
    have hlo : ∀ x ∈ a.take (low a n), x < n := fun x hx => by
      obtain ⟨i, hi⟩ := List.getElem?_of_mem hx
      rw [List.getElem?_take] at hi
      split at hi
      · exact low_lt ‹_› hi
      · cases hi
    have hhi : ∀ x ∈ a.drop (low a n), n < x := fun x hx => by
      obtain ⟨i, hi⟩ := List.getElem?_of_mem hx
      rw [List.getElem?_drop] at hi
      have h1 := low_ge h (Nat.le_add_right _ _) hi
      by_cases e : x = n
      · subst e
        cases i with
        | zero => exact absurd hi hn
        | succ i =>
          have hlt : low a x + (i + 1) < a.length := (List.getElem?_eq_some_iff.1 hi).1
          have h0 : low a x < a.length := by omega
          have h2 := low_ge h (Nat.le_refl _) (List.getElem?_eq_getElem h0)
          have h3 := (List.pairwise_iff_getElem.1 h) (low a x) (low a x + (i + 1)) h0 hlt (by omega)
          rw [(List.getElem?_eq_some_iff.1 hi).2] at h3
          omega
      · omega
    have hs : (a.take (low a n) ++ a.drop (low a n)).Pairwise (· < ·) := by rw [List.take_append_drop]; exact h
    obtain ⟨s1, s2, s3⟩ := List.pairwise_append.1 hs
    refine List.pairwise_append.2 ⟨List.pairwise_append.2 ⟨s1, List.pairwise_singleton .., fun x hx y hy => ?_⟩, s2, fun x hx y hy => ?_⟩
    · rw [List.mem_singleton.1 hy]; exact hlo x hx
    · rcases List.mem_append.1 hx with hx | hx
      · exact s3 x hx y hy
      · rw [List.mem_singleton.1 hx]; exact hhi y hy
theorem mem_putI {a : List Int} {n x : Int} : x ∈ putI a n ↔ x ∈ a ∨ n = x := by
  rw [← has_mem, has_putI, Bool.or_eq_true, has_mem, beq_iff_eq]
theorem full_iff {l : List Path} (hl : arePaths l = true) {e : List Int} : fullStage l e = true ↔ Ind l e ∧ ∀ p ∈ l, p.id ∉ e → ∃ x ∈ e, conflict p (pathAt l x) = true := by
  unfold fullStage
  rw [Bool.and_eq_true, together_iff hl]
  constructor
  · rintro ⟨h1, h2⟩
    refine ⟨h2, fun p hp hn => ?_⟩
    have := List.all_eq_true.1 h1 p hp
    rw [show has e p.id = false by rw [← Bool.not_eq_true, has_mem]; exact hn, Bool.false_or, Bool.not_eq_true', ← Bool.not_eq_true, together_iff hl] at this
    by_cases c : ∃ x ∈ e, conflict p (pathAt l x) = true
    · exact c
    · refine absurd ⟨fun x hx => ?_, putI_sorted h2.2.1 _, fun x hx y hy => ?_⟩ this
      · rcases mem_putI.1 hx with hx | rfl
        · exact h2.1 x hx
        · exact ⟨p, hp, rfl⟩
      · have key : ∀ z ∈ e, conflict p (pathAt l z) = false := fun z hz => by
          cases hc : conflict p (pathAt l z) with
          | false => rfl
          | true => exact absurd ⟨z, hz, hc⟩ c
        rcases mem_putI.1 hx with hx | rfl
        · rcases mem_putI.1 hy with hy | rfl
          · exact h2.2.2 x hx y hy
          · rw [own_at hl hp, conf_comm]; exact key x hx
        · rw [own_at hl hp]
          rcases mem_putI.1 hy with hy | rfl
          · exact key y hy
          · rw [own_at hl hp]; exact conf_self _
  · rintro ⟨h1, h2⟩
    refine ⟨List.all_eq_true.2 fun p hp => ?_, h1⟩
    cases hh : has e p.id with
    | true => rfl
    | false =>
      rw [Bool.false_or, Bool.not_eq_true', ← Bool.not_eq_true, together_iff hl]
      intro hI
      have hn : p.id ∉ e := fun hm => by rw [has_mem.2 hm] at hh; cases hh
      obtain ⟨x, hx, hc⟩ := h2 p hp hn
      have := hI.2.2 p.id (mem_putI.2 (.inr rfl)) x (mem_putI.2 (.inl hx))
      rw [own_at hl hp, hc] at this
      cases this
def allS (l : List Path) : List Path → List Int → List (List Int)
  | [], ids => if ids ≠ [] ∧ fullStage l ids = true then [ids] else []
  | p :: r, ids => (if together l (ids ++ [p.id]) = true then allS l r (ids ++ [p.id]) else []) ++ allS l r ids
theorem take_app {α : Type} {a b : List α} {n : Nat} (h : n ≤ 40) : a.take (40 - n) ++ b.take (40 - (n + (a.take (40 - n)).length)) = (a ++ b).take (40 - n) := by
  rw [List.take_append, List.length_take]
  congr 2
  omega
theorem search_all (l : List Path) : ∀ (r : List Path) (ids : List Int) (out : List (List Int)), out.length ≤ 40 → search l r ids out = out ++ (allS l r ids).take (40 - out.length)
  | [], ids, out, h => by
    unfold search allS
    by_cases c : ids ≠ [] ∧ fullStage l ids = true
    · rw [if_pos c]
      by_cases c2 : out.length < 40
      · rw [if_pos ⟨c.1, c2, c.2⟩, List.take_of_length_le (by simp; omega)]
      · rw [if_neg (fun h => c2 h.2.1), show 40 - out.length = 0 by omega]; simp
    · rw [if_neg c, if_neg (fun h => c ⟨h.1, h.2.2⟩)]; simp
  | p :: r, ids, out, h => by
    unfold search allS
    split
    · rename_i ht
      have h1 := search_all l r (ids ++ [p.id]) out h
      rw [search_all l r ids _ (search_len l r _ out h), h1, List.append_assoc, List.length_append, take_app h]
    · rw [search_all l r ids out h]; simp
theorem mem_all {l : List Path} (hl : arePaths l = true) : ∀ (r : List Path) (ids e : List Int), e ∈ allS l r ids ↔ e ≠ [] ∧ fullStage l e = true ∧ ∃ t, e = ids ++ t ∧ t.Sublist (r.map (·.id))
  | [], ids, e => by
    unfold allS
    constructor
    · intro h
      split at h
      · rename_i c
        rw [List.mem_singleton.1 h]
        exact ⟨c.1, c.2, [], by simp, by simp⟩
      · cases h
    · rintro ⟨h1, h2, t, h3, h4⟩
      have : t = [] := by simpa using h4
      subst this
      rw [List.append_nil] at h3
      subst h3
      rw [if_pos ⟨h1, h2⟩]
      exact List.mem_singleton.2 rfl
  | p :: r, ids, e => by
    unfold allS
    rw [List.mem_append, mem_all hl r ids e]
    constructor
    · rintro (h | ⟨h1, h2, t, h3, h4⟩)
      · split at h
        · obtain ⟨h1, h2, t, h3, h4⟩ := (mem_all hl r _ e).1 h
          exact ⟨h1, h2, p.id :: t, by rw [h3]; simp, h4.cons₂ _⟩
        · cases h
      · exact ⟨h1, h2, t, h3, h4.cons _⟩
    · rintro ⟨h1, h2, t, h3, h4⟩
      rw [List.map_cons] at h4
      cases h4 with
      | cons _ h4 => exact .inr ⟨h1, h2, t, h3, h4⟩
      | cons_cons _ h4 =>
        rename_i t'
        left
        have hI := ((full_iff hl).1 h2).1
        have hT : together l (ids ++ [p.id]) = true := by
          rw [together_iff hl]
          have e1 : e = (ids ++ [p.id]) ++ t' := by rw [h3]; simp
          rw [e1] at hI
          exact ⟨fun x hx => hI.1 x (List.mem_append_left _ hx), (List.pairwise_append.1 hI.2.1).1, fun x hx y hy => hI.2.2 x (List.mem_append_left _ hx) y (List.mem_append_left _ hy)⟩
        rw [if_pos hT, mem_all hl r _ e]
        exact ⟨h1, h2, t', by rw [h3]; simp, h4⟩
theorem app_lt {a b : List Int} : ∀ c : List Int, a < b → c ++ a < c ++ b
  | [], h => h
  | x :: c, h => List.cons_lt_cons_iff.2 (.inr ⟨rfl, app_lt c h⟩)
theorem all_sorted {l : List Path} (hl : arePaths l = true) : ∀ (r : List Path) (ids : List Int), (∀ p ∈ r, p ∈ l) → r.Pairwise (fun x y => x.id < y.id) → (allS l r ids).Pairwise (· < ·)
  | [], ids, _, _ => by
    unfold allS
    split
    · exact List.pairwise_singleton ..
    · exact .nil
  | p :: r, ids, hm, hp => by
    obtain ⟨hp1, hp2⟩ := List.pairwise_cons.1 hp
    have hm2 : ∀ q ∈ r, q ∈ l := fun q hq => hm q (List.mem_cons_of_mem _ hq)
    unfold allS
    refine List.pairwise_append.2 ⟨?_, all_sorted hl r ids hm2 hp2, fun e1 h1 e2 h2 => ?_⟩
    · split
      · exact all_sorted hl r _ hm2 hp2
      · exact .nil
    · split at h1
      case isFalse => cases h1
      rename_i hT
      obtain ⟨_, _, t1, rfl, _⟩ := (mem_all hl r _ e1).1 h1
      obtain ⟨_, f2, t2, rfl, s2⟩ := (mem_all hl r _ e2).1 h2
      rw [List.append_assoc]
      refine app_lt ids ?_
      rw [List.singleton_append]
      cases t2 with
      | nil =>
        rw [List.append_nil] at f2
        have hI := (together_iff hl).1 hT
        have hn : p.id ∉ ids := fun hx => by
          have := (List.pairwise_append.1 hI.2.1).2.2 p.id hx p.id (by simp)
          omega
        obtain ⟨x, hx, hc⟩ := ((full_iff hl).1 f2).2 p (hm p (List.mem_cons_self ..)) hn
        have := hI.2.2 p.id (by simp) x (List.mem_append_left _ hx)
        rw [own_at hl (hm p (List.mem_cons_self ..)), hc] at this
        cases this
      | cons y t2 =>
        have hy : y ∈ r.map (·.id) := s2.subset (List.mem_cons_self ..)
        obtain ⟨q, hq, rfl⟩ := List.mem_map.1 hy
        exact List.cons_lt_cons_iff.2 (.inl (hp1 q hq))
def idsM (l : List Path) (set : Nat) : List Int := (l.zipIdx.filter fun x => set.testBit x.2).map fun x => x.1.id
def goodM (l : List Path) (set : Nat) : Bool := l.zipIdx.all fun x => set.testBit x.2 == l.zipIdx.all fun y => !(set.testBit y.2 && conflict x.1 y.1)
def brute (l : List Path) : List (List Int) := (List.range' 1 (2 ^ l.length - 1)).filterMap fun set => if goodM l set = true then some (idsM l set) else none
theorem mem_idsM {l : List Path} {set : Nat} {x : Int} : x ∈ idsM l set ↔ ∃ i p, l[i]? = some p ∧ set.testBit i = true ∧ p.id = x := by
  unfold idsM
  rw [List.mem_map]
  constructor
  · rintro ⟨⟨p, i⟩, h, rfl⟩
    obtain ⟨h1, h2⟩ := List.mem_filter.1 h
    exact ⟨i, p, by rw [List.mem_zipIdx_iff_getElem?] at h1; exact h1, h2, rfl⟩
  · rintro ⟨i, p, h1, h2, rfl⟩
    exact ⟨(p, i), List.mem_filter.2 ⟨by rw [List.mem_zipIdx_iff_getElem?]; exact h1, h2⟩, rfl⟩
theorem ids_inj {l : List Path} (hl : arePaths l = true) {i j : Nat} {p q : Path} (hi : l[i]? = some p) (hj : l[j]? = some q) (h : p.id = q.id) : i = j := by
  have hp := (goP_asc l none (are_go hl)).2
  have h1 := List.getElem?_eq_some_iff.1 hi
  have h2 := List.getElem?_eq_some_iff.1 hj
  rcases Nat.lt_trichotomy i j with c | c | c
  · have := (List.pairwise_iff_getElem.1 hp) i j h1.1 h2.1 c
    rw [h1.2, h2.2] at this
    omega
  · exact c
  · have := (List.pairwise_iff_getElem.1 hp) j i h2.1 h1.1 c
    rw [h1.2, h2.2] at this
    omega
theorem bit_idsM {l : List Path} (hl : arePaths l = true) {set i : Nat} {p : Path} (hi : l[i]? = some p) : p.id ∈ idsM l set ↔ set.testBit i = true := by
  rw [mem_idsM]
  constructor
  · rintro ⟨j, q, h1, h2, h3⟩
    rw [ids_inj hl hi h1 h3.symm]; exact h2
  · exact fun h => ⟨i, p, hi, h, rfl⟩
theorem idsM_sub (l : List Path) (set : Nat) : (idsM l set).Sublist (l.map (·.id)) := by
  have h : ((l.zipIdx.filter fun x => set.testBit x.2).map fun x => x.1.id).Sublist (l.zipIdx.map fun x => x.1.id) := (List.filter_sublist).map _
  have e : l.zipIdx.map (fun x => x.1.id) = l.map (·.id) := by
    rw [show (fun x : Path × Nat => x.1.id) = (fun p : Path => p.id) ∘ Prod.fst from rfl, ← List.map_map, List.zipIdx_map_fst]
  rw [e] at h
  exact h
theorem ids_sorted {l : List Path} (hl : arePaths l = true) : (l.map (·.id)).Pairwise (· < ·) := List.pairwise_map.2 (goP_asc l none (are_go hl)).2
theorem good_iff {l : List Path} {set : Nat} : goodM l set = true ↔ ∀ i p, l[i]? = some p → (set.testBit i = true ↔ ∀ j q, l[j]? = some q → set.testBit j = true → conflict p q = false) := by
  unfold goodM
  rw [List.all_eq_true]
  have key : ∀ p : Path, (l.zipIdx.all fun y => !(set.testBit y.2 && conflict p y.1)) = true ↔ ∀ j q, l[j]? = some q → set.testBit j = true → conflict p q = false := fun p => by
    rw [List.all_eq_true]
    constructor
    · intro h j q hj hb
      have := h (q, j) (by rw [List.mem_zipIdx_iff_getElem?]; exact hj)
      simpa [hb] using this
    · rintro h ⟨q, j⟩ hm
      rw [List.mem_zipIdx_iff_getElem?] at hm
      have := h j q hm
      cases hb : set.testBit j with
      | false => simp [hb]
      | true => simp [hb, this hb]
  constructor
  · intro h i p hi
    have := h (p, i) (by rw [List.mem_zipIdx_iff_getElem?]; exact hi)
    rw [beq_iff_eq] at this
    simp only at this
    rw [this, key]
  · rintro h ⟨p, i⟩ hm
    rw [List.mem_zipIdx_iff_getElem?] at hm
    rw [beq_iff_eq, Bool.eq_iff_iff]
    simp only
    rw [key]
    exact h i p hm
theorem full_good {l : List Path} (hl : arePaths l = true) {set : Nat} : fullStage l (idsM l set) = true ↔ goodM l set = true := by
  rw [full_iff hl, good_iff]
  constructor
  · rintro ⟨hI, hM⟩ i p hi
    have hp := List.mem_of_getElem? hi
    constructor
    · intro hb j q hj hb2
      have := hI.2.2 p.id ((bit_idsM hl hi).2 hb) q.id ((bit_idsM hl hj).2 hb2)
      rwa [own_at hl hp, own_at hl (List.mem_of_getElem? hj)] at this
    · intro h
      cases hb : set.testBit i with
      | true => rfl
      | false =>
        obtain ⟨x, hx, hc⟩ := hM p hp (fun hm => by rw [(bit_idsM hl hi).1 hm] at hb; cases hb)
        obtain ⟨j, q, h1, h2, rfl⟩ := mem_idsM.1 hx
        rw [own_at hl (List.mem_of_getElem? h1), h j q h1 h2] at hc
        cases hc
  · intro h
    refine ⟨⟨fun x hx => ?_, (ids_sorted hl).sublist (idsM_sub l set), fun x hx y hy => ?_⟩, fun p hp hn => ?_⟩
    · obtain ⟨j, q, h1, _, rfl⟩ := mem_idsM.1 hx
      exact ⟨q, List.mem_of_getElem? h1, rfl⟩
    · obtain ⟨i, p, h1, h2, rfl⟩ := mem_idsM.1 hx
      obtain ⟨j, q, h3, h4, rfl⟩ := mem_idsM.1 hy
      rw [own_at hl (List.mem_of_getElem? h1), own_at hl (List.mem_of_getElem? h3)]
      exact (h i p h1).1 h2 j q h3 h4
    · obtain ⟨i, hi⟩ := List.getElem?_of_mem hp
      by_cases c : ∃ x ∈ idsM l set, conflict p (pathAt l x) = true
      · exact c
      · refine absurd ((bit_idsM hl hi).2 ((h i p hi).2 fun j q hj hb => ?_)) hn
        cases hc : conflict p q with
        | false => rfl
        | true => exact absurd ⟨q.id, (bit_idsM hl hj).2 hb, by rw [own_at hl (List.mem_of_getElem? hj)]; exact hc⟩ c
def mk (f : Nat → Bool) : Nat → Nat
  | 0 => 0
  | n + 1 => mk f n ||| (if f n then 2 ^ n else 0)
theorem mk_bit (f : Nat → Bool) : ∀ n i, (mk f n).testBit i = (decide (i < n) && f i)
  | 0, i => by simp [mk]
  | n + 1, i => by
    unfold mk
    rw [Nat.testBit_or, mk_bit f n i]
    cases hf : f n with
    | true =>
      simp only [if_true, Nat.testBit_two_pow]
      by_cases c : i = n
      · subst c; simp [hf]
      · have : decide (n = i) = false := by simp; omega
        rw [this, Bool.or_false]
        congr 1
        simp; omega
    | false =>
      simp only [Bool.false_eq_true, if_false, Nat.zero_testBit, Bool.or_false]
      by_cases c : i = n
      · subst c; simp [hf]
      · congr 1
        simp; omega
theorem mk_lt (f : Nat → Bool) (n : Nat) : mk f n < 2 ^ n := Nat.lt_pow_two_of_testBit _ fun i hi => by
  rw [mk_bit]
  simp; omega
theorem ind_idsM {l : List Path} (hl : arePaths l = true) {e : List Int} (h : Ind l e) : ∃ set, set < 2 ^ l.length ∧ idsM l set = e := by
  let f : Nat → Bool := fun i => match l[i]? with | some p => has e p.id | none => false
  refine ⟨mk f l.length, mk_lt _ _, ?_⟩
  have hs := (ids_sorted hl).sublist (idsM_sub l (mk f l.length))
  have hmem : ∀ x, x ∈ idsM l (mk f l.length) ↔ x ∈ e := fun x => by
    rw [mem_idsM]
    constructor
    · rintro ⟨i, p, h1, h2, rfl⟩
      rw [mk_bit, Bool.and_eq_true] at h2
      have : has e p.id = true := by have := h2.2; simpa only [f, h1] using this
      exact has_mem.1 this
    · intro hx
      obtain ⟨p, hp, rfl⟩ := h.1 x hx
      obtain ⟨i, hi⟩ := List.getElem?_of_mem hp
      refine ⟨i, p, hi, ?_, rfl⟩
      rw [mk_bit, Bool.and_eq_true]
      exact ⟨by simpa using (List.getElem?_eq_some_iff.1 hi).1, by simp only [f, hi]; exact has_mem.2 hx⟩
  have hnd : ∀ {a : List Int}, a.Pairwise (· < ·) → a.Nodup := fun h => h.imp fun h => by omega
  exact List.Perm.eq_of_pairwise (le := (· < ·)) (fun a b _ _ h1 h2 => by omega) hs h.2.1 ((List.perm_ext_iff_of_nodup (hnd hs) (hnd h.2.1)).2 hmem)
theorem idsM_inj {l : List Path} (hl : arePaths l = true) {a b : Nat} (ha : a < 2 ^ l.length) (hb : b < 2 ^ l.length) (h : idsM l a = idsM l b) : a = b := by
  refine Nat.eq_of_testBit_eq fun i => ?_
  by_cases hi : i < l.length
  · have hx := List.getElem?_eq_getElem hi
    have h1 := bit_idsM hl (set := a) hx
    have h2 := bit_idsM hl (set := b) hx
    rw [h, h2] at h1
    exact (Bool.eq_iff_iff.2 h1).symm
  · have hp : 2 ^ l.length ≤ 2 ^ i := Nat.pow_le_pow_right (by decide) (by omega)
    rw [Nat.testBit_lt_two_pow (by omega), Nat.testBit_lt_two_pow (by omega)]
theorem mem_brute {l : List Path} (hl : arePaths l = true) {e : List Int} : e ∈ brute l ↔ e ≠ [] ∧ fullStage l e = true := by
  unfold brute
  rw [List.mem_filterMap]
  constructor
  · rintro ⟨set, h1, h2⟩
    split at h2
    case isFalse => cases h2
    rename_i hg
    cases h2
    rw [List.mem_range'_1] at h1
    refine ⟨fun h0 => ?_, (full_good hl).2 hg⟩
    have : set = 0 := by
      refine Nat.eq_of_testBit_eq fun i => ?_
      rw [Nat.zero_testBit]
      by_cases hi : i < l.length
      · cases hb : set.testBit i with
        | false => rfl
        | true =>
          have := (bit_idsM hl (set := set) (List.getElem?_eq_getElem hi)).2 hb
          rw [h0] at this
          cases this
      · have hp : 2 ^ l.length ≤ 2 ^ i := Nat.pow_le_pow_right (by decide) (by omega)
        exact Nat.testBit_lt_two_pow (by omega)
    omega
  · rintro ⟨h1, h2⟩
    obtain ⟨set, hs, rfl⟩ := ind_idsM hl ((full_iff hl).1 h2).1
    refine ⟨set, ?_, by rw [if_pos ((full_good hl).1 h2)]⟩
    rw [List.mem_range'_1]
    have : set ≠ 0 := fun h0 => h1 (by
      subst h0
      unfold idsM
      simp)
    omega
theorem brute_nodup {l : List Path} (hl : arePaths l = true) : (brute l).Nodup := by
  unfold brute
  refine List.Pairwise.filterMap (R := fun a b => a < b ∧ b < 2 ^ l.length) _ ?_ ?_
  · rintro a b ⟨h1, h2⟩ x hx y hy
    split at hx
    case isFalse => cases hx
    split at hy
    case isFalse => cases hy
    cases hx
    cases hy
    intro h
    have := idsM_inj hl (by omega) h2 h
    omega
  · rw [List.pairwise_iff_getElem]
    intro i j hi hj hij
    rw [List.length_range'] at hi hj
    simp only [List.getElem_range']
    omega
theorem sort_brute {l : List Path} (hl : arePaths l = true) : sortL (brute l) = allS l l [] := by
  have hs := all_sorted hl l [] (fun _ h => h) (goP_asc l none (are_go hl)).2
  refine (sortL_of ?_ (hs.imp fun h => List.le_of_lt h)).symm
  have hnd : (allS l l []).Nodup := hs.imp fun h e => by
    subst e
    exact List.lt_irrefl _ h
  refine (List.perm_ext_iff_of_nodup hnd (brute_nodup hl)).2 fun e => ?_
  rw [mem_brute hl, mem_all hl]
  constructor
  · rintro ⟨h1, h2, _⟩
    exact ⟨h1, h2⟩
  · rintro ⟨h1, h2⟩
    obtain ⟨set, _, rfl⟩ := ind_idsM hl ((full_iff hl).1 h2).1
    exact ⟨h1, h2, _, rfl, idsM_sub l set⟩
theorem stagesOf_brute {l : List Path} (hl : arePaths l = true) : stagesOf l = (sortL (brute l)).take 40 := by
  unfold stagesOf
  rw [if_pos hl, search_all l l [] [] (by simp), sort_brute hl]
  simp
theorem bv_nat (m : Nat) (h : m < 4611686018427387904) : (BitVec.ofInt (IntKind.bits .i64) (m : Int)).toNat = m := by
  show (BitVec.ofInt 64 (m : Int)).toNat = m
  rw [BitVec.toNat_ofInt]
  omega
theorem lt62 {m k : Nat} (h : m < 2 ^ k) (hk : k ≤ 62) : m < 4611686018427387904 := Nat.lt_of_lt_of_le h (by
  have := Nat.pow_le_pow_right (show 1 ≤ 2 by decide) hk
  exact this)
theorem or_nat {m j k : Nat} (hm : m < 2 ^ k) (hj : j < 2 ^ k) (hk : k ≤ 62) : W ((BitVec.toNat (BitVec.ofInt (IntKind.bits .i64) (m : Int) ||| BitVec.ofInt (IntKind.bits .i64) (j : Int)) : Nat) : Int) = ((m ||| j : Nat) : Int) := by
  rw [BitVec.toNat_or, bv_nat m (lt62 hm hk), bv_nat j (lt62 hj hk)]
  have := lt62 (Nat.or_lt_two_pow hm hj) hk
  exact W_id (by omega) (by omega)
theorem and_nat {m j : Nat} (hm : m < 4611686018427387904) (hj : j < 4611686018427387904) : W ((BitVec.toNat (BitVec.ofInt (IntKind.bits .i64) (m : Int) &&& BitVec.ofInt (IntKind.bits .i64) (j : Int)) : Nat) : Int) = ((m &&& j : Nat) : Int) := by
  rw [BitVec.toNat_and, bv_nat m hm, bv_nat j hj]
  have := Nat.and_le_left (n := m) (m := j)
  exact W_id (by omega) (by omega)
theorem pow_nat {j : Nat} (hj : j ≤ 12) : W ((1 : Int) * ((2 : Int) ^ (Min.min (Int.toNat (j : Int)) (IntKind.bits .i64)))) = ((2 ^ j : Nat) : Int) := by
  rw [Int.toNat_natCast, show Min.min j (IntKind.bits .i64) = j from Nat.min_eq_left (by show j ≤ 64; omega), Int.one_mul]
  have h : 2 ^ j ≤ 2 ^ 12 := Nat.pow_le_pow_right (by decide) hj
  have e : ((2 : Int) ^ j) = ((2 ^ j : Nat) : Int) := by simp
  rw [e]
  generalize (2 : Nat) ^ j = m at h ⊢
  exact W_id (by omega) (by omega)
theorem shr_nat {s i : Nat} (hi : i ≤ 12) : Int.fdiv (s : Int) ((2 : Int) ^ (Min.min (Int.toNat (i : Int)) (IntKind.bits .i64))) = ((s >>> i : Nat) : Int) := by
  rw [Int.toNat_natCast, show Min.min i (IntKind.bits .i64) = i from Nat.min_eq_left (by show i ≤ 64; omega), Nat.shiftRight_eq_div_pow]
  rw [Int.fdiv_eq_ediv_of_nonneg _ (by exact Int.pow_nonneg (by decide))]
  simp
theorem bit_in {s i : Nat} (hs : s < 4611686018427387904) (hi : i ≤ 12) : (W ((BitVec.toNat (BitVec.ofInt (IntKind.bits .i64) (Int.fdiv (s : Int) ((2 : Int) ^ (Min.min (Int.toNat (i : Int)) (IntKind.bits .i64)))) &&& BitVec.ofInt (IntKind.bits .i64) (1 : Int)) : Nat) : Int) == 1) = s.testBit i := by
  have h1 : s >>> i ≤ s := by rw [Nat.shiftRight_eq_div_pow]; exact Nat.div_le_self _ _
  rw [shr_nat hi, show (1 : Int) = ((1 : Nat) : Int) from rfl, and_nat (by omega) (by decide), Nat.testBit, Nat.and_comm]
  rw [Nat.and_comm, Nat.and_one_is_mod]
  rcases Nat.mod_two_eq_zero_or_one (s >>> i) with h | h <;> rw [h] <;> rfl
def fc (l : List Path) (p : Path) (j : Nat) : Bool := match l[j]? with | some q => conflict p q | none => false
theorem and_zero {l : List Path} {p : Path} {s : Nat} : (((mk (fc l p) l.length &&& s : Nat) : Int) == 0) = l.zipIdx.all fun y => !(s.testBit y.2 && conflict p y.1) := by
  rw [Bool.eq_iff_iff, beq_iff_eq, List.all_eq_true]
  constructor
  · intro h y hy
    have h0 : mk (fc l p) l.length &&& s = 0 := by omega
    obtain ⟨q, j⟩ := y
    rw [List.mem_zipIdx_iff_getElem?] at hy
    have hb : (mk (fc l p) l.length &&& s).testBit j = false := by rw [h0]; exact Nat.zero_testBit j
    rw [Nat.testBit_and, mk_bit, show fc l p j = conflict p q by unfold fc; rw [hy], decide_eq_true (List.getElem?_eq_some_iff.1 hy).1, Bool.true_and] at hb
    simp only
    rw [Bool.and_comm, hb]; rfl
  · intro h
    have : mk (fc l p) l.length &&& s = 0 := by
      refine Nat.eq_of_testBit_eq fun j => ?_
      rw [Nat.zero_testBit, Nat.testBit_and, mk_bit]
      by_cases hj : j < l.length
      · have hx := List.getElem?_eq_getElem hj
        have := h (l[j], j) (by rw [List.mem_zipIdx_iff_getElem?]; exact hx)
        simp only at this
        rw [decide_eq_true hj, Bool.true_and, show fc l p j = conflict p l[j] by unfold fc; rw [hx], Bool.and_comm]
        cases hb : s.testBit j with
        | false => rfl
        | true => rw [hb] at this; simpa using this
      · rw [decide_eq_false hj]; rfl
    rw [this]; rfl
theorem iter_fix {V β : Type} {F : (V → Option β) → V → Option β} {v : V} (N : Nat) (hN : N ≤ 1099511627776) (st : Nat → V) (J : Nat → Prop) (hJ : J 0) (R : Option β) (hv : v = st 0)
    (h0 : ∀ rec, J N → F rec (st N) = R) (h1 : ∀ rec k, k < N → J k → (J (k + 1) → rec (st (k + 1)) = R) → F rec (st k) = R) : iter F NN v = R := by
  refine iter_listJ (List.range N) (by rw [List.length_range]; omega) (fun k (_ : Unit) => st k) () (fun k _ => J k) hJ (fun _ _ _ => R) hv ?_ ?_
  · intro rec _ h
    rw [List.length_range] at h ⊢
    exact h0 rec h
  · intro rec k x _ hJ hx hk hr
    rw [List.length_range] at hk
    exact h1 rec k hk hJ fun h => hr () h
def agl (l : List Path) (i : Nat) : List Int := (List.range l.length).map fun k => if k < i then ((mk (fc l (l.getD k default)) l.length : Nat) : Int) else 0
theorem agl_len (l : List Path) (i : Nat) : (agl l i).length = l.length := by unfold agl; simp
theorem agl_at {l : List Path} {i k : Nat} (hk : k < l.length) : (agl l i)[k]? = some (if k < i then ((mk (fc l (l.getD k default)) l.length : Nat) : Int) else 0) := by
  unfold agl
  rw [List.getElem?_map, List.getElem?_range hk]
  rfl
theorem agl_zero (l : List Path) : agl l 0 = List.replicate l.length 0 := by
  unfold agl
  apply List.ext_getElem
  · simp
  · intro i h1 h2
    simp
theorem agl_set0 {l : List Path} {i : Nat} (hi : i < l.length) : (agl l i).set i 0 = agl l i := by
  apply List.ext_getElem?
  intro k
  rw [List.getElem?_set]
  split
  · rename_i e
    subst e
    rw [if_pos (by rw [agl_len]; exact hi), agl_at hi, if_neg (by omega)]
  · rfl
theorem agl_succ {l : List Path} {i : Nat} {p : Path} (hi : l[i]? = some p) : (agl l i).set i ((mk (fc l p) l.length : Nat) : Int) = agl l (i + 1) := by
  have hlt := (List.getElem?_eq_some_iff.1 hi).1
  apply List.ext_getElem?
  intro k
  rw [List.getElem?_set]
  by_cases hk : k < l.length
  · rw [agl_at hk]
    split
    · rename_i e
      subst e
      rw [agl_at hlt, if_pos (Nat.lt_succ_self i), List.getD_eq_getElem?_getD, hi]
      simp [agl_len, hlt]
    · rename_i e
      rw [agl_at hk]
      by_cases c : k < i
      · rw [if_pos c, if_pos (by omega)]
      · rw [if_neg c, if_neg (by omega)]
  · rw [if_neg (by omega), List.getElem?_eq_none (by rw [agl_len]; omega), List.getElem?_eq_none (by rw [agl_len]; omega)]
def goodAt (l : List Path) (set : Nat) (x : Path × Nat) : Bool := set.testBit x.2 == l.zipIdx.all fun y => !(set.testBit y.2 && conflict x.1 y.1)
def idsTo (l : List Path) (set k : Nat) : List Int := ((l.zipIdx.take k).filter fun x => set.testBit x.2).map fun x => x.1.id
theorem zipx_at {l : List Path} {k : Nat} {p : Path} (h : l[k]? = some p) : l.zipIdx[k]? = some (p, k) := by
  rw [List.getElem?_zipIdx, h]; simp
theorem idsTo_succ {l : List Path} {set k : Nat} {p : Path} (h : l[k]? = some p) : idsTo l set (k + 1) = if set.testBit k = true then idsTo l set k ++ [p.id] else idsTo l set k := by
  unfold idsTo
  rw [List.take_add_one, zipx_at h, List.filter_append, List.map_append]
  cases hb : set.testBit k with
  | true => simp [hb]
  | false => simp [hb]
theorem idsTo_len (l : List Path) (set k : Nat) : (idsTo l set k).length ≤ l.length := by
  unfold idsTo
  rw [List.length_map]
  refine Nat.le_trans (List.length_filter_le _ _) ?_
  rw [List.length_take, List.length_zipIdx]
  omega
def outTo (l : List Path) (k : Nat) : List (List Int) := (List.range' 1 k).filterMap fun set => if goodM l set = true then some (idsM l set) else none
theorem outTo_succ (l : List Path) (k : Nat) : outTo l (k + 1) = if goodM l (k + 1) = true then outTo l k ++ [idsM l (k + 1)] else outTo l k := by
  unfold outTo
  rw [List.range'_concat, List.filterMap_append]
  simp only [Nat.one_mul, Nat.add_comm 1 k]
  cases hg : goodM l (k + 1) with
  | true => simp [hg]
  | false => simp [hg]
theorem outTo_len (l : List Path) (k : Nat) : (outTo l k).length ≤ k := by
  unfold outTo
  refine Nat.le_trans (List.length_filterMap_le _ _) ?_
  rw [List.length_range']
  exact Nat.le_refl _
@[simp] theorem frzss_il (l : List (List Int)) : frzss (l.map (rOne (rX Own.own 1 iR)).enc) = l.map (rOne (rX Own.own 1 iR)).enc := frzss_map (fun _ => rfl) l
theorem seti (l : List Int) (i : Nat) (v : Int) {β : Type} (K : List Int → Option β) : rws iR ((l.map iR.enc).set i [I v]) K = K (l.set i v) := by
  have e : (l.map iR.enc).set i [I v] = (l.set i v).map iR.enc := (List.map_set (f := iR.enc) (l := l) (i := i) (a := v)).symm
  rw [e, rws_i]
theorem appi (l : List Int) (v : Int) {β : Type} (K : List Int → Option β) : rws iR (l.map iR.enc ++ [[I v]]) K = K (l ++ [v]) := rws_app_i' l v K
theorem W1 {n : Nat} (h : n ≤ 4000000000) : W ((n : Int) + 1) = ((n + 1 : Nat) : Int) := by rw [W_n1 (by omega)]; omega
theorem repi (n : Nat) {β : Type} (K : List Int → Option β) : rws iR (List.replicate ((n : Nat) : Int).toNat [I 0]) K = K (List.replicate n 0) := by
  have e : List.replicate ((n : Nat) : Int).toNat [I 0] = (List.replicate n (0 : Int)).map iR.enc := by
    rw [Int.toNat_natCast]
    induction n with
    | zero => rfl
    | succ n ih => rw [List.replicate_succ, List.replicate_succ, ih]; rfl
  rw [e, rws_i]
theorem n_iv {β : Type} (l : List Int) (n : Nat) (K : Int → Option β) : n_i l n K = getN l n K := getn_i l n K
theorem iStagesOf_v (l : List Path) (h : Sm l) : S_iStagesOf l = some (stagesOf l) := by
  unfold S_iStagesOf
  simp only [rws_path, rws_i, rws_il_oo, rws_il_so, len_path, len_i, len_il, iArePaths_v l h, bnd_some, geti_path, iConflict_v, frzss_il, repi]
  cases ha : arePaths l with
  | false => unfold stagesOf; rw [ha]; rfl
  | true =>
  have hn := are_len ha
  rw [Bool.not_true, cnd_ff, ifA_pos (by simp; omega), stagesOf_brute ha]
  have hpow : 2 ^ l.length ≤ 4096 := Nat.pow_le_pow_right (n := 2) (by decide) hn
  have hpow1 : 1 ≤ 2 ^ l.length := Nat.one_le_two_pow
  refine iter_fix l.length (by omega) (fun i => ((l, [], l, ((l.length : Nat) : Int), (i : Int)), agl l i)) (fun _ => True) trivial _ (by rw [agl_zero]; rfl) ?_ ?_
  · intro rec _
    simp only
    rw [show decide (((l.length : Nat) : Int) < ((l.length : Nat) : Int)) = false from decide_eq_false (by omega), cnd_ff]
    refine iter_fix (2 ^ l.length - 1) (by omega) (fun k => ((l, outTo l k, ((k + 1 : Nat) : Int)), agl l l.length)) (fun _ => True) trivial _ rfl ?_ ?_
    · intro rec _
      simp only
      rw [pow_nat hn, show decide (((2 ^ l.length - 1 + 1 : Nat) : Int) < ((2 ^ l.length : Nat) : Int)) = false from decide_eq_false (by
        generalize 2 ^ l.length = m at hpow1 ⊢
        omega), cnd_ff]
      have hb : outTo l (2 ^ l.length - 1) = brute l := rfl
      have hbl : (brute l).length ≤ 4096 := by
        rw [← hb]
        exact Nat.le_trans (outTo_len _ _) (by omega)
      rw [hb]
      unfold S_slices_SortFunc_int_int
      rw [ifA_pos (by omega), bnd_some]
      have hsl : (sortL (brute l)).length = (brute l).length := (sortL_perm _).length_eq
      generalize sortL (brute l) = S at hsl ⊢
      by_cases c : 40 < S.length
      · rw [if_pos (by omega), ifA_pos (by omega), show (40 : Int).toNat = 40 from rfl, show Int.toNat 0 = 0 from rfl, List.drop_zero, take_il, rws_il_so]
      · rw [if_neg (by omega), ifA_pos (by omega), Int.toNat_natCast, show Int.toNat 0 = 0 from rfl, List.drop_zero, take_il, rws_il_so, List.take_of_length_le (Nat.le_refl _), List.take_of_length_le (by omega)]
    · intro rec k hk _ hr
      have hr := hr trivial
      simp only
      have hks : k + 1 < 2 ^ l.length := by omega
      rw [pow_nat hn, show decide (((k + 1 : Nat) : Int) < ((2 ^ l.length : Nat) : Int)) = true from decide_eq_true (by
        generalize 2 ^ l.length = m at hks ⊢
        omega), cnd_tt]
      refine iter_fix l.length (by omega) (fun i => ((l, outTo l k, ((k + 1 : Nat) : Int), true, idsTo l (k + 1) i, l, ((l.length : Nat) : Int), (i : Int)), agl l l.length)) (fun i => ∀ x ∈ l.zipIdx.take i, goodAt l (k + 1) x = true) (by simp) _ (by unfold idsTo; simp) ?_ ?_
      · intro rec2 hJ
        simp only
        rw [show decide (((l.length : Nat) : Int) < ((l.length : Nat) : Int)) = false from decide_eq_false (by omega), cnd_ff, cnd_tt]
        have hol := outTo_len l k
        have hg : goodM l (k + 1) = true := by
          unfold goodM
          refine List.all_eq_true.2 fun x hx => hJ x ?_
          rw [List.take_of_length_le (by simp)]
          exact hx
        have hid : idsTo l (k + 1) l.length = idsM l (k + 1) := by
          unfold idsTo idsM
          rw [List.take_of_length_le (by simp)]
        rw [ifA_pos (by simp; omega), appe_ilo (o := .own) (p := .own) (q := .own) rfl rfl, W1 (by omega), hid]
        rw [outTo_succ, if_pos hg] at hr
        exact hr
      · intro rec2 i hi hJ hr2
        simp only
        have hx := List.getElem?_eq_getElem hi
        generalize l[i] = p at hx
        rw [show decide ((i : Int) < ((l.length : Nat) : Int)) = true from decide_eq_true (by omega), cnd_tt, getZ_at hx, ifA_pos (by omega), ifA_pos (by rw [agl_len]; omega)]
        simp only [Int.toNat_natCast]
        have hag : (agl l l.length)[i]? = some ((mk (fc l p) l.length : Nat) : Int) := by
          rw [agl_at hi, if_pos hi, List.getD_eq_getElem?_getD, hx]
          rfl
        have hbi := bit_in (s := k + 1) (i := i) (by omega) (by omega)
        rw [Int.toNat_natCast] at hbi
        rw [n_iv, getN_at hag, hbi, and_nat (lt62 (mk_lt _ _) (by omega)) (by omega), and_zero, W1 (by omega)]
        have hgd : goodAt l (k + 1) (p, i) = ((k + 1).testBit i == l.zipIdx.all fun y => !((k + 1).testBit y.2 && conflict p y.1)) := rfl
        have hmem : (p, i) ∈ l.zipIdx := by rw [List.mem_zipIdx_iff_getElem?]; exact hx
        cases hb : ((k + 1).testBit i != l.zipIdx.all fun y => !((k + 1).testBit y.2 && conflict p y.1)) with
        | true =>
          rw [cnd_tt]
          have hng : goodM l (k + 1) = false := by
            cases hg : goodM l (k + 1) with
            | false => rfl
            | true =>
              have := List.all_eq_true.1 hg (p, i) hmem
              simp only at this
              unfold bne at hb
              rw [this] at hb
              cases hb
          rw [outTo_succ, hng, if_neg (by decide)] at hr
          exact hr
        | false =>
          rw [cnd_ff]
          have hJ' : ∀ x ∈ l.zipIdx.take (i + 1), goodAt l (k + 1) x = true := fun x hx' => by
            rw [List.take_add_one, zipx_at hx] at hx'
            rcases List.mem_append.1 hx' with h1 | h1
            · exact hJ x h1
            · have : x = (p, i) := by simpa using h1
              subst this
              rw [hgd]
              unfold bne at hb
              simpa using hb
          have hr3 := hr2 hJ'
          rw [idsTo_succ hx] at hr3
          have hil := idsTo_len l (k + 1) i
          cases hbit : (k + 1).testBit i with
          | true =>
            rw [cnd_tt, ifA_pos (by simp; omega), appi, W1 (by omega)]
            rw [hbit, if_pos rfl] at hr3
            exact hr3
          | false =>
            rw [cnd_ff, W1 (by omega)]
            rw [hbit, if_neg (by decide)] at hr3
            exact hr3
  · intro rec i hi _ hr
    have hr := hr trivial
    simp only
    have hx := List.getElem?_eq_getElem hi
    generalize l[i] = p at hx
    rw [show decide ((i : Int) < ((l.length : Nat) : Int)) = true from decide_eq_true (by omega), cnd_tt, getZ_at hx]
    refine iter_fix l.length (by omega) (fun j => ((l, [], (i : Int), l, ((l.length : Nat) : Int), (i : Int), l, ((l.length : Nat) : Int), (j : Int)), p, (agl l i).set i ((mk (fc l p) j : Nat) : Int))) (fun _ => True) trivial _ (by rw [show ((mk (fc l p) 0 : Nat) : Int) = 0 from rfl, agl_set0 hi]; rfl) ?_ ?_
    · intro rec2 _
      simp only
      rw [show decide (((l.length : Nat) : Int) < ((l.length : Nat) : Int)) = false from decide_eq_false (by omega), cnd_ff, agl_succ hx, W1 (by omega)]
      exact hr
    · intro rec2 j hj _ hr2
      have hr2 := hr2 trivial
      simp only
      have hy := List.getElem?_eq_getElem hj
      generalize l[j] = q at hy
      rw [show decide ((j : Int) < ((l.length : Nat) : Int)) = true from decide_eq_true (by omega), cnd_tt, getZ_at hy, W1 (by omega)]
      have hf : fc l p j = conflict p q := by unfold fc; rw [hy]
      have hmk : mk (fc l p) (j + 1) = mk (fc l p) j ||| (if fc l p j = true then 2 ^ j else 0) := rfl
      rw [hmk, hf] at hr2
      cases hc : conflict p q with
      | false =>
        rw [cnd_ff]
        rw [hc, if_neg (by decide), Nat.or_zero] at hr2
        exact hr2
      | true =>
        rw [hc, if_pos rfl] at hr2
        rw [cnd_tt, ifA_pos (by rw [List.length_set, agl_len]; omega)]
        simp only [Int.toNat_natCast]
        have hag : ((agl l i).set i ((mk (fc l p) j : Nat) : Int))[i]? = some ((mk (fc l p) j : Nat) : Int) := by
          rw [List.getElem?_set, if_pos rfl, if_pos (by rw [agl_len]; exact hi)]
        rw [n_iv, getN_at hag, ifA_pos (by omega), ifA_pos (by rw [List.length_set, agl_len]; omega), n_iv, getN_at hag, seti, List.set_set]
        have hlt : mk (fc l p) j < 2 ^ 12 := Nat.lt_of_lt_of_le (mk_lt _ _) (Nat.pow_le_pow_right (by decide) (by omega))
        have hpj : 2 ^ j < 2 ^ 12 := Nat.pow_lt_pow_right (by decide) (by omega)
        have hpw := pow_nat (j := j) (by omega)
        rw [Int.toNat_natCast] at hpw
        rw [hpw, or_nat hlt hpj (by omega)]
        exact hr2
theorem sapp (l : List Int) (n : Nat) {β : Type} (K : List Int → Option β) : rws iR (l.map iR.enc ++ [[I ((n : Nat) : Int)]]) K = K (l ++ [(n : Int)]) := rws_app_i' l _ K
def sizes (l : List Path) : List Int := (stagesOf l).map fun s => ((s.length : Nat) : Int)
theorem iStageSizes_v (l : List Path) (h : Sm l) : S_iStageSizes l = some (sizes l) := by
  unfold S_iStageSizes sizes
  simp only [rws_path, iStagesOf_v l h, bnd_some, rws_il_ss, rws_i, len_il, len_i, geti_il_ss]
  have hs := (stagesOf_sm l).1
  generalize stagesOf l = S at hs
  refine mapG_loop S (fun s => ((s.length : Nat) : Int)) (by omega) (fun k acc => (acc, S, ((S.length : Nat) : Int), (k : Int))) some rfl ?_ ?_
  · intro rec acc ha
    simp only
    rw [show decide (((S.length : Nat) : Int) < ((S.length : Nat) : Int)) = false from decide_eq_false (by omega), cnd_ff]
  · intro rec k x acc hx hk ha
    simp only
    rw [show decide ((k : Int) < ((S.length : Nat) : Int)) = true from decide_eq_true (by omega), cnd_tt, getZ_at hx, ifA_pos (by simp; omega), sapp, W1 (by omega)]
end Go.Sh
