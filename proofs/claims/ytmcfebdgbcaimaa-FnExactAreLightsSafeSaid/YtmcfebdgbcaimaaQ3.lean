/- Plain facts: what the functions compute. -/
import Derived.Test.YtmcfebdgbcaimaaHp3
set_option linter.all false
namespace Go.Sh
open Go.Fx
theorem sl1In_v (x a b : Int) : S_sl1In x a b = some (decide (a ≤ x) && decide (x ≤ b)) := by
  unfold S_sl1In
  by_cases h : a ≤ x <;> simp [h, cnd_if]
theorem iInRange_v (x a b : Int) : S_iInRange x a b = some (decide (a ≤ x) && decide (x ≤ b)) := by
  unfold S_iInRange
  by_cases h : a ≤ x <;> simp [h, cnd_if]
theorem W_n1 {n : Nat} (h : n ≤ 9223372036854775806) : W ((n : Int) + 1) = (n : Int) + 1 := W_id (by omega) (by omega)
/-! paths -/
def inR (n a b : Int) : Bool := decide (a ≤ n) && decide (n ≤ b)
def isPath (p : Path) : Bool := inR p.id 1 20 && inR p.kind 1 3 && inR p.src 0 3 && inR p.dst 0 3 && ((p.src == p.dst) == (p.kind == 2))
theorem sIsPath_v (p : Path) : S_sIsPath p = some (isPath p) := by
  unfold S_sIsPath isPath inR
  simp only [sl1In_v, bnd_some]
  cases (decide (1 ≤ p.id) && decide (p.id ≤ 20)) <;> cases (decide (1 ≤ p.kind) && decide (p.kind ≤ 3)) <;> cases (decide (0 ≤ p.src) && decide (p.src ≤ 3)) <;> cases (decide (0 ≤ p.dst) && decide (p.dst ≤ 3)) <;> simp
theorem iIsPath_v (p : Path) : S_iIsPath p = some (isPath p) := by
  unfold S_iIsPath isPath inR
  simp only [iInRange_v, bnd_some]
  cases (decide (1 ≤ p.id) && decide (p.id ≤ 20)) <;> cases (decide (1 ≤ p.kind) && decide (p.kind ≤ 3)) <;> cases (decide (0 ≤ p.src) && decide (p.src ≤ 3)) <;> cases (decide (0 ≤ p.dst) && decide (p.dst ≤ 3)) <;> simp
/-- valid paths, their ids rising -/
def goP : Option Int → List Path → Bool
  | _, [] => true
  | none, p :: r => isPath p && goP (some p.id) r
  | some i, p :: r => isPath p && decide (i < p.id) && goP (some p.id) r
def arePaths (l : List Path) : Bool := decide (l.length ≤ 12) && goP none l
/-- the id ahead of place k -/
def prevId (l : List Path) (k : Nat) : Option Int := if k = 0 then none else (l[k - 1]?).map (·.id)
theorem prevId_succ {l : List Path} {k : Nat} {x : Path} (h : l[k]? = some x) : prevId l (k + 1) = some x.id := by
  unfold prevId
  simp [h]
theorem sArePaths_v (l : List Path) (h : Sm l) : S_sArePaths l = some (arePaths l) := by
  unfold Sm at h
  unfold S_sArePaths
  simp
  refine (iter_list0 l (by omega) (fun k (_ : Unit) => (l, (k : Int))) () (fun s k _ => some (goP (prevId l k) s && decide (l.length ≤ 12))) rfl ?_ ?_).trans ?_
  · intro rec _
    simp [goP]
    omega
  · intro rec k x _ hx hk hr
    have hr' := hr ()
    simp [hk, getZ_at hx, sIsPath_v, W_n1 (show k ≤ 9223372036854775806 by omega)] at hr' ⊢
    cases hp : isPath x with
    | false => cases hq : prevId l k <;> simp [goP, hp]
    | true =>
      simp
      by_cases h0 : k = 0
      · subst h0
        simp [prevId, hx] at hr'
        simp [hr', prevId, goP, hp, hx]
      · have hz : l[k - 1]? = some l[k - 1] := List.getElem?_eq_getElem (by omega)
        have hk1 : W ((k : Int) - 1) = ((k - 1 : Nat) : Int) := by rw [W_id (by omega) (by omega)]; omega
        simp [show 0 < k by omega, hk1, getZ_at hz, hr', prevId_succ hx]
        rw [show prevId l k = some (l[k - 1]).id by unfold prevId; simp [h0, hz]]
        simp [goP, hp, cnd_if]
        by_cases h1 : x.id ≤ (l[k - 1]).id
        · simp [h1, show ¬ ((l[k - 1]).id < x.id) by omega]
        · simp [h1, show (l[k - 1]).id < x.id by omega]
  · simp [prevId, arePaths, Bool.and_comm]
theorem iArePaths_v (l : List Path) (h : Sm l) : S_iArePaths l = some (arePaths l) := by
  unfold Sm at h
  unfold S_iArePaths
  simp
  by_cases h12 : (12 : Int) < (l.length : Int)
  · simp [h12, arePaths, show ¬ (l.length ≤ 12) by omega]
  simp [h12]
  refine (iter_list0 l (by omega) (fun k (_ : Unit) => (l, l, (l.length : Int), (k : Int))) () (fun s k _ => some (goP (prevId l k) s)) rfl ?_ ?_).trans ?_
  · intro rec _
    simp [goP]
  · intro rec k x _ hx hk hr
    have hr' := hr ()
    simp [hk, getZ_at hx, iIsPath_v, W_n1 (show k ≤ 9223372036854775806 by omega)] at hr' ⊢
    cases hp : isPath x with
    | false => cases hq : prevId l k <;> simp [goP, hp]
    | true =>
      simp
      by_cases h0 : k = 0
      · subst h0
        simp [prevId, hx] at hr'
        simp [hr', prevId, goP, hp, hx]
      · have hz : l[k - 1]? = some l[k - 1] := List.getElem?_eq_getElem (by omega)
        have hk1 : W ((k : Int) - 1) = ((k - 1 : Nat) : Int) := by rw [W_id (by omega) (by omega)]; omega
        simp [show 0 < k by omega, hk1, getZ_at hz, hr', prevId_succ hx]
        rw [show prevId l k = some (l[k - 1]).id by unfold prevId; simp [h0, hz]]
        simp [goP, hp, cnd_if]
        by_cases h1 : x.id ≤ (l[k - 1]).id
        · simp [h1, show ¬ ((l[k - 1]).id < x.id) by omega]
        · simp [h1, show (l[k - 1]).id < x.id by omega]
  · simp [prevId, arePaths, show l.length ≤ 12 by omega]
/-! waits -/
def lwG : List Want → Nat → Int → Option Int
  | [], _, n => some n
  | x :: xs, k, n => if k = 0 ∨ n < x.wait then lwG xs (k + 1) x.wait else lwG xs (k + 1) n
def longestWait : List Want → Int
  | [] => 0
  | x :: xs => xs.foldl (fun m y => if m < y.wait then y.wait else m) x.wait
theorem lwG_eq : ∀ (l : List Want) (k : Nat) (n : Int), 0 < k → lwG l k n = some (l.foldl (fun m y => if m < y.wait then y.wait else m) n)
  | [], _, _, _ => rfl
  | x :: xs, k, n, h => by
    simp only [lwG, List.foldl_cons]
    split <;> rw [lwG_eq xs (k + 1) _ (by omega)] <;> congr 2 <;> split <;> simp_all <;> omega
/-! the longest clearing -/
def clearOf (p : Path) : Int := if isPath p then (if p.kind = 1 then 2 else if p.kind = 2 then 5 else 3) else 0
theorem kind_of {p : Path} (h : isPath p = true) : p.kind = 1 ∨ p.kind = 2 ∨ p.kind = 3 := by
  simp [isPath, inR] at h
  omega
theorem sClearOf_v (p : Path) : S_sClearOf p = some (clearOf p) := by
  unfold S_sClearOf clearOf
  rw [sIsPath_v, bnd_some]
  cases h : isPath p with
  | false => rfl
  | true => rcases kind_of h with e | e | e <;> rw [e] <;> rfl
theorem iClearOf_v (p : Path) : S_iClearOf p = some (clearOf p) := by
  unfold S_iClearOf clearOf
  rw [iIsPath_v, bnd_some]
  cases h : isPath p with
  | false => rfl
  | true => rcases kind_of h with e | e | e <;> rw [e] <;> rfl
def longestClear (l : List Path) : Int := if arePaths l then l.foldl (fun n p => if n < clearOf p then clearOf p else n) 0 else 0
theorem sMax_v (a b : Int) : S_sMax a b = some (if a < b then b else a) := by
  unfold S_sMax
  rw [cnd_if]
  split <;> simp_all <;> omega
theorem sLongestClear_v (l : List Path) (h : Sm l) : S_sLongestClear l = some (longestClear l) := by
  have h' := h
  unfold Sm at h
  unfold S_sLongestClear longestClear
  simp
  refine (iter_list0 l (by omega) (fun k n => (l, n, (k : Int))) 0 (fun s _ n => some (if arePaths l then s.foldl (fun n p => if n < clearOf p then clearOf p else n) n else n)) rfl ?_ ?_).trans rfl
  · intro rec n
    simp
  · intro rec k x n hx hk hr
    simp only [Int.natCast_succ] at hr
    simp [hk, getZ_at hx, sArePaths_v l h', sClearOf_v, sMax_v, W_n1 (show k ≤ 9223372036854775806 by omega), hr]
    cases arePaths l <;> simp
theorem iLongestClear_v (l : List Path) (h : Sm l) : S_iLongestClear l = some (longestClear l) := by
  have h' := h
  unfold Sm at h
  unfold S_iLongestClear longestClear
  simp [iArePaths_v l h']
  cases arePaths l with
  | false => rfl
  | true =>
    simp
    refine (iter_list0 l (by omega) (fun k n => (n, l, (l.length : Int), (k : Int))) 0 (fun s _ n => some (s.foldl (fun n p => if n < clearOf p then clearOf p else n) n)) rfl ?_ ?_).trans rfl
    · intro rec n
      simp
    · intro rec k x n hx hk hr
      simp only [Int.natCast_succ] at hr
      simp [hk, getZ_at hx, iClearOf_v, W_n1 (show k ≤ 9223372036854775806 by omega), hr]
def waitBound (l : List Path) : Int := W (W ((l.length : Int) + 1) * W (W (W (60 + longestClear l) + 20) + 1))
theorem sWaitBound_v (l : List Path) (h : Sm l) : S_sWaitBound l = some (waitBound l) := by
  unfold S_sWaitBound waitBound
  simp [sLongestClear_v l h]
theorem iWaitBound_v (l : List Path) (h : Sm l) : S_iWaitBound l = some (waitBound l) := by
  unfold S_iWaitBound waitBound
  simp [iLongestClear_v l h]
/-! the busiest arm -/
def ends (l : List Path) (a : Nat) : Int := cnt (fun p => p.src == (a : Int) || p.dst == (a : Int)) l
def busy (l : List Path) : List Nat → Int × Int → Int
  | [], b => b.1
  | a :: r, b => if b.2 < ends l a then busy l r (a, ends l a) else busy l r b
def busiestArm (l : List Path) : Int := if arePaths l then busy l (List.range 4) (-1, 0) else -1
theorem range_at {n k x : Nat} (h : (List.range n)[k]? = some x) : x = k := by
  rw [List.getElem?_range (by
    have := (List.getElem?_eq_some_iff.1 h).1
    simpa using this)] at h
  exact (Option.some.inj h).symm
theorem tmod_pos {a m : Int} (h : 0 ≤ a) : Int.tmod a m = a % m := Int.tmod_eq_emod_of_nonneg h
theorem sl1In_t {x a b : Int} (h : a ≤ x) (h' : x ≤ b) : S_sl1In x a b = some true := by rw [sl1In_v]; simp [h, h']
theorem iInRange_t {x a b : Int} (h : a ≤ x) (h' : x ≤ b) : S_iInRange x a b = some true := by rw [iInRange_v]; simp [h, h']
theorem tmod_cases (n : Int) {m : Int} (h : 0 < m) : (0 ≤ Int.tmod n m ∧ Int.tmod n m < m ∧ Int.tmod n m = n % m) ∨ (Int.tmod n m < 0 ∧ -m < Int.tmod n m ∧ Int.tmod n m + m = n % m) := by
  have h1 := Int.tmod_lt_of_pos n h
  have h2 := Int.lt_tmod_of_pos n h
  have h3 : n = m * Int.tdiv n m + Int.tmod n m := by have := Int.mul_tdiv_add_tmod n m; omega
  have h4 : n % m = Int.tmod n m % m := by
    conv => lhs; rw [h3]
    rw [Int.add_comm, Int.add_mul_emod_self_left]
  rcases (by omega : Int.tmod n m < 0 ∨ 0 ≤ Int.tmod n m) with hn | hp
  · right
    refine ⟨hn, h2, ?_⟩
    rw [h4, ← Int.add_emod_right, Int.emod_eq_of_lt (by omega) (by omega)]
  · left
    exact ⟨hp, h1, by rw [h4, Int.emod_eq_of_lt hp h1]⟩
def mix (a v : Int) : Int := Int.tmod (W (W (W (a * 1000003) + v % 2147483647) + 13)) 2147483647
def hash (l : List Int) : Int := l.foldl mix 11
def sealOf (b s : Int) (l : List Int) : Int := hash (b :: s :: l)
theorem sl1In_r (x a b : Int) : S_sl1In x a b = some (inR x a b) := sl1In_v x a b
theorem iInRange_r (x a b : Int) : S_iInRange x a b = some (inR x a b) := iInRange_v x a b
theorem all_loop {α V β : Type} (l : List α) (p : α → Bool) (hl : l.length ≤ 1099511627776) (st : Nat → V) (K no : Option β) {F : (V → Option β) → V → Option β} {v : V} (hv : v = st 0)
    (h0 : ∀ rec, F rec (st l.length) = K)
    (h1 : ∀ rec k x, l[k]? = some x → k < l.length → F rec (st k) = if p x = true then rec (st (k + 1)) else no) : iter F NN v = if l.all p = true then K else no := by
  refine (iter_list0 l (by omega) (fun k (_ : Unit) => st k) () (fun s _ _ => if s.all p = true then K else no) hv ?_ ?_).trans rfl
  · intro rec _
    rw [h0]; simp
  · intro rec k x _ hx hk hr
    rw [h1 rec k x hx hk, List.all_cons]
    cases p x with
    | true => simpa using hr ()
    | false => simp
theorem getZ0 {α β : Type} {l : List α} {x : α} (h : l[0]? = some x) (K : α → Option β) : getZ l 0 K = K x := getZ_at h K
def noteOk (b : Int) (n : Nat) (x : Note) : Bool := inR x.second 0 1000000 && decide (x.lights.length ≤ 12) && decide (x.lights.length = n) && decide (x.sig = sealOf b x.second x.lights) && x.lights.all (fun v => inR v 0 2)
def later (pv : Option Int) (s : Int) : Bool := match pv with | none => true | some p => decide (p < s)
def goR (n : Nat) : Int → Option Int → List Note → Bool
  | _, _, [] => true
  | b, pv, x :: r => noteOk b n x && later pv x.second && goR n x.sig (some x.second) r
def firstLen (l : List Note) : Nat := match l with | [] => 0 | x :: _ => x.lights.length
def isRecord (l : List Note) : Bool := decide (l.length ≤ 60) && goR (firstLen l) 0 none l
def prevSec (l : List Note) (k : Nat) : Option Int := if k = 0 then none else (l[k - 1]?).map (·.second)
theorem prevSec_succ {l : List Note} {k : Nat} {x : Note} (h : l[k]? = some x) : prevSec l (k + 1) = some x.second := by
  unfold prevSec
  simp [h]
theorem firstLen_at {l : List Note} {x : Note} (h : l[0]? = some x) : firstLen l = x.lights.length := by
  cases l with
  | nil => simp at h
  | cons y t => simp at h; rw [firstLen, h]
theorem mem_at {α : Type} {l : List α} {k : Nat} {x : α} (h : l[k]? = some x) : x ∈ l := List.mem_of_getElem? h
def bs (l : List UInt8) : ByteArray := ⟨l.toArray⟩
theorem bs_eq (l : List UInt8) : ByteArray.mk l.toArray = bs l := rfl
theorem bs_size (l : List UInt8) : (bs l).size = l.length := rfl
def dash : ByteArray := bs [45]
def jn (a b : ByteArray) (r : List ByteArray) : ByteArray := r.foldl (fun a x => a ++ b ++ x) a
def joined (l : List ByteArray) (b : ByteArray) : ByteArray := match l with | [] => dash | x :: r => jn x b r
def tot (l : List ByteArray) (b : ByteArray) : Nat := (l.map (fun x => x.size + b.size)).sum
theorem tot_cons (x : ByteArray) (l : List ByteArray) (b : ByteArray) : tot (x :: l) b = x.size + b.size + tot l b := by simp [tot]
theorem jn_data (b : ByteArray) : ∀ (r : List ByteArray) (a : ByteArray), (jn a b r).data.toList = a.data.toList ++ Lib.joinTail b.data.toList (r.map (·.data.toList))
  | [], a => by simp [jn, Lib.joinTail]
  | x :: r, a => by
    show (jn (a ++ b ++ x) b r).data.toList = _
    rw [jn_data b r]
    simp [Lib.joinTail]
theorem joinB_cons (x : ByteArray) (r : List ByteArray) (b : ByteArray) : joinB (x :: r) b = jn x b r := by
  have h : (joinB (x :: r) b).data.toList = (jn x b r).data.toList := by
    rw [jn_data]
    show (Lib.join _ _).toArray.toList = _
    rw [List.map_cons, Lib.join_cons]
  have h2 : (joinB (x :: r) b).data = (jn x b r).data := Array.toList_inj.1 h
  exact ByteArray.ext h2
theorem jn_size (b : ByteArray) : ∀ (r : List ByteArray) (a : ByteArray), (jn a b r).size = a.size + tot r b
  | [], a => by simp [jn, tot]
  | x :: r, a => by
    show (jn (a ++ b ++ x) b r).size = _
    rw [jn_size b r, tot_cons, ByteArray.size_append, ByteArray.size_append]
    omega
theorem join_len (x : ByteArray) (r : List ByteArray) (b : ByteArray) : (Lib.join ((x :: r).map (·.data.toList)) b.data.toList).length = x.size + tot r b := by
  have h := jn_size b r x
  rw [← joinB_cons] at h
  exact h
@[simp] theorem bnd_id {α : Type} (x : Option α) : bnd x (fun r => some r) = x := by cases x <;> rfl
@[simp] theorem rws_app_s {β : Type} (l : List ByteArray) (s : ByteArray) (K : List ByteArray → Option β) : rws sR (l.map sR.enc ++ [[Sg s]]) K = K (l ++ [s]) :=
  (congrArg (fun z => rws sR z K) (List.map_append (f := sR.enc) (l₁ := l) (l₂ := [s])).symm).trans (rws_enc sR (l ++ [s]) K)
@[simp] theorem rws_app_i {β : Type} (l : List Int) (s : Int) (K : List Int → Option β) : rws iR (l.map iR.enc ++ [[I s]]) K = K (l ++ [s]) :=
  (congrArg (fun z => rws iR z K) (List.map_append (f := iR.enc) (l₁ := l) (l₂ := [s])).symm).trans (rws_enc iR (l ++ [s]) K)
/-- a list of texts that grows one by one -/
theorem grow_loop {α V β : Type} (l : List α) (f : α → ByteArray) (hl : l.length ≤ 1099511627776) (st : Nat → List ByteArray → V) (K : List ByteArray → Option β) {F : (V → Option β) → V → Option β} {v : V} (hv : v = st 0 [])
    (h0 : ∀ rec acc, acc.length = l.length → F rec (st l.length acc) = K acc)
    (h1 : ∀ rec k x acc, l[k]? = some x → k < l.length → acc.length = k → F rec (st k acc) = rec (st (k + 1) (acc ++ [f x]))) : iter F NN v = K (l.map f) := by
  refine (iter_listJ l (by omega) st [] (fun k acc => acc.length = k) rfl (fun s _ acc => K (acc ++ s.map f)) hv ?_ ?_).trans (by simp)
  · intro rec acc h
    rw [h0 rec acc h]
    simp
  · intro rec k x acc h hx hk hr
    rw [h1 rec k x acc hx hk h, hr _ (by simp [h])]
    simp
def lightCh (v : Int) : ByteArray := if v = 0 then bs [114] else if v = 1 then bs [103] else if v = 2 then bs [99] else bs [46]
theorem lightCh_size (v : Int) : (lightCh v).size = 1 := by
  unfold lightCh
  split <;> (try split) <;> (try split) <;> rfl
theorem tot_const {α : Type} (l : List α) (f : α → ByteArray) (b : ByteArray) (n : Nat) (h : ∀ x ∈ l, (f x).size ≤ n) : tot (l.map f) b ≤ l.length * (n + b.size) := by
  induction l with
  | nil => simp [tot]
  | cons x l ih =>
    rw [List.map_cons, tot_cons, List.length_cons, Nat.succ_mul]
    have := ih fun y hy => h y (List.mem_cons_of_mem _ hy)
    have := h x (List.mem_cons_self ..)
    omega
def formatLights (l : List Int) : ByteArray := joined (l.map lightCh) (bs [])
end Go.Sh
