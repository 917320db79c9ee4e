/- Plain facts: what the functions compute. -/
import Derived.Test.YtmcfebdgbcaimaaDoorHpD
set_option linter.all false
namespace Go.Sh
open Go.Fx
theorem sl1In_v (x a b : Int) : S_sl1In x a b = some (decide (a ≤ x) && decide (x ≤ b)) := by
  unfold S_sl1In
  by_cases h : a ≤ x <;> simp [h, cnd_if]
theorem iInRange_v (x a b : Int) : S_iInRange x a b = some (decide (a ≤ x) && decide (x ≤ b)) := by
  unfold S_iInRange
  by_cases h : a ≤ x <;> simp [h, cnd_if]
theorem W_n1 {n : Nat} (h : n ≤ 9223372036854775806) : W ((n : Int) + 1) = (n : Int) + 1 := W_id (by omega) (by omega)
/-! paths -/
def inR (n a b : Int) : Bool := decide (a ≤ n) && decide (n ≤ b)
def isPath (p : Path) : Bool := inR p.id 1 20 && inR p.kind 1 3 && inR p.src 0 3 && inR p.dst 0 3 && ((p.src == p.dst) == (p.kind == 2))
theorem sIsPath_v (p : Path) : S_sIsPath p = some (isPath p) := by
  unfold S_sIsPath isPath inR
  simp only [sl1In_v, bnd_some]
  cases (decide (1 ≤ p.id) && decide (p.id ≤ 20)) <;> cases (decide (1 ≤ p.kind) && decide (p.kind ≤ 3)) <;> cases (decide (0 ≤ p.src) && decide (p.src ≤ 3)) <;> cases (decide (0 ≤ p.dst) && decide (p.dst ≤ 3)) <;> simp
theorem iIsPath_v (p : Path) : S_iIsPath p = some (isPath p) := by
  unfold S_iIsPath isPath inR
  simp only [iInRange_v, bnd_some]
  cases (decide (1 ≤ p.id) && decide (p.id ≤ 20)) <;> cases (decide (1 ≤ p.kind) && decide (p.kind ≤ 3)) <;> cases (decide (0 ≤ p.src) && decide (p.src ≤ 3)) <;> cases (decide (0 ≤ p.dst) && decide (p.dst ≤ 3)) <;> simp
/-- valid paths, their ids rising -/
def goP : Option Int → List Path → Bool
  | _, [] => true
  | none, p :: r => isPath p && goP (some p.id) r
  | some i, p :: r => isPath p && decide (i < p.id) && goP (some p.id) r
def arePaths (l : List Path) : Bool := decide (l.length ≤ 12) && goP none l
/-- the id ahead of place k -/
def prevId (l : List Path) (k : Nat) : Option Int := if k = 0 then none else (l[k - 1]?).map (·.id)
theorem prevId_succ {l : List Path} {k : Nat} {x : Path} (h : l[k]? = some x) : prevId l (k + 1) = some x.id := by
  unfold prevId
  simp [h]
theorem sArePaths_v (l : List Path) (h : Sm l) : S_sArePaths l = some (arePaths l) := by
  unfold Sm at h
  unfold S_sArePaths
  simp
  refine (iter_list0 l (by omega) (fun k (_ : Unit) => (l, (k : Int))) () (fun s k _ => some (goP (prevId l k) s && decide (l.length ≤ 12))) rfl ?_ ?_).trans ?_
  · intro rec _
    simp [goP]
    omega
  · intro rec k x _ hx hk hr
    have hr' := hr ()
    simp [hk, getZ_at hx, sIsPath_v, W_n1 (show k ≤ 9223372036854775806 by omega)] at hr' ⊢
    cases hp : isPath x with
    | false => cases hq : prevId l k <;> simp [goP, hp]
    | true =>
      simp
      by_cases h0 : k = 0
      · subst h0
        simp [prevId, hx] at hr'
        simp [hr', prevId, goP, hp, hx]
      · have hz : l[k - 1]? = some l[k - 1] := List.getElem?_eq_getElem (by omega)
        have hk1 : W ((k : Int) - 1) = ((k - 1 : Nat) : Int) := by rw [W_id (by omega) (by omega)]; omega
        simp [show 0 < k by omega, hk1, getZ_at hz, hr', prevId_succ hx]
        rw [show prevId l k = some (l[k - 1]).id by unfold prevId; simp [h0, hz]]
        simp [goP, hp, cnd_if]
        by_cases h1 : x.id ≤ (l[k - 1]).id
        · simp [h1, show ¬ ((l[k - 1]).id < x.id) by omega]
        · simp [h1, show (l[k - 1]).id < x.id by omega]
  · simp [prevId, arePaths, Bool.and_comm]
theorem iArePaths_v (l : List Path) (h : Sm l) : S_iArePaths l = some (arePaths l) := by
  unfold Sm at h
  unfold S_iArePaths
  simp
  by_cases h12 : (12 : Int) < (l.length : Int)
  · simp [h12, arePaths, show ¬ (l.length ≤ 12) by omega]
  simp [h12]
  refine (iter_list0 l (by omega) (fun k (_ : Unit) => (l, l, (l.length : Int), (k : Int))) () (fun s k _ => some (goP (prevId l k) s)) rfl ?_ ?_).trans ?_
  · intro rec _
    simp [goP]
  · intro rec k x _ hx hk hr
    have hr' := hr ()
    simp [hk, getZ_at hx, iIsPath_v, W_n1 (show k ≤ 9223372036854775806 by omega)] at hr' ⊢
    cases hp : isPath x with
    | false => cases hq : prevId l k <;> simp [goP, hp]
    | true =>
      simp
      by_cases h0 : k = 0
      · subst h0
        simp [prevId, hx] at hr'
        simp [hr', prevId, goP, hp, hx]
      · have hz : l[k - 1]? = some l[k - 1] := List.getElem?_eq_getElem (by omega)
        have hk1 : W ((k : Int) - 1) = ((k - 1 : Nat) : Int) := by rw [W_id (by omega) (by omega)]; omega
        simp [show 0 < k by omega, hk1, getZ_at hz, hr', prevId_succ hx]
        rw [show prevId l k = some (l[k - 1]).id by unfold prevId; simp [h0, hz]]
        simp [goP, hp, cnd_if]
        by_cases h1 : x.id ≤ (l[k - 1]).id
        · simp [h1, show ¬ ((l[k - 1]).id < x.id) by omega]
        · simp [h1, show (l[k - 1]).id < x.id by omega]
  · simp [prevId, arePaths, show l.length ≤ 12 by omega]
/-! waits -/
def lwG : List Want → Nat → Int → Option Int
  | [], _, n => some n
  | x :: xs, k, n => if k = 0 ∨ n < x.wait then lwG xs (k + 1) x.wait else lwG xs (k + 1) n
def longestWait : List Want → Int
  | [] => 0
  | x :: xs => xs.foldl (fun m y => if m < y.wait then y.wait else m) x.wait
theorem lwG_eq : ∀ (l : List Want) (k : Nat) (n : Int), 0 < k → lwG l k n = some (l.foldl (fun m y => if m < y.wait then y.wait else m) n)
  | [], _, _, _ => rfl
  | x :: xs, k, n, h => by
    simp only [lwG, List.foldl_cons]
    split <;> rw [lwG_eq xs (k + 1) _ (by omega)] <;> congr 2 <;> split <;> simp_all <;> omega
/-! the longest clearing -/
def clearOf (p : Path) : Int := if isPath p then (if p.kind = 1 then 2 else if p.kind = 2 then 5 else 3) else 0
theorem kind_of {p : Path} (h : isPath p = true) : p.kind = 1 ∨ p.kind = 2 ∨ p.kind = 3 := by
  simp [isPath, inR] at h
  omega
def longestClear (l : List Path) : Int := if arePaths l then l.foldl (fun n p => if n < clearOf p then clearOf p else n) 0 else 0
def waitBound (l : List Path) : Int := W (W ((l.length : Int) + 1) * W (W (W (60 + longestClear l) + 20) + 1))
/-! the busiest arm -/
def ends (l : List Path) (a : Nat) : Int := cnt (fun p => p.src == (a : Int) || p.dst == (a : Int)) l
def busy (l : List Path) : List Nat → Int × Int → Int
  | [], b => b.1
  | a :: r, b => if b.2 < ends l a then busy l r (a, ends l a) else busy l r b
def busiestArm (l : List Path) : Int := if arePaths l then busy l (List.range 4) (-1, 0) else -1
theorem range_at {n k x : Nat} (h : (List.range n)[k]? = some x) : x = k := by
  rw [List.getElem?_range (by
    have := (List.getElem?_eq_some_iff.1 h).1
    simpa using this)] at h
  exact (Option.some.inj h).symm
theorem tmod_pos {a m : Int} (h : 0 ≤ a) : Int.tmod a m = a % m := Int.tmod_eq_emod_of_nonneg h
theorem sl1In_t {x a b : Int} (h : a ≤ x) (h' : x ≤ b) : S_sl1In x a b = some true := by rw [sl1In_v]; simp [h, h']
theorem iInRange_t {x a b : Int} (h : a ≤ x) (h' : x ≤ b) : S_iInRange x a b = some true := by rw [iInRange_v]; simp [h, h']
theorem tmod_cases (n : Int) {m : Int} (h : 0 < m) : (0 ≤ Int.tmod n m ∧ Int.tmod n m < m ∧ Int.tmod n m = n % m) ∨ (Int.tmod n m < 0 ∧ -m < Int.tmod n m ∧ Int.tmod n m + m = n % m) := by
  have h1 := Int.tmod_lt_of_pos n h
  have h2 := Int.lt_tmod_of_pos n h
  have h3 : n = m * Int.tdiv n m + Int.tmod n m := by have := Int.mul_tdiv_add_tmod n m; omega
  have h4 : n % m = Int.tmod n m % m := by
    conv => lhs; rw [h3]
    rw [Int.add_comm, Int.add_mul_emod_self_left]
  rcases (by omega : Int.tmod n m < 0 ∨ 0 ≤ Int.tmod n m) with hn | hp
  · right
    refine ⟨hn, h2, ?_⟩
    rw [h4, ← Int.add_emod_right, Int.emod_eq_of_lt (by omega) (by omega)]
  · left
    exact ⟨hp, h1, by rw [h4, Int.emod_eq_of_lt hp h1]⟩
def mix (a v : Int) : Int := Int.tmod (W (W (W (a * 1000003) + v % 2147483647) + 13)) 2147483647
def hash (l : List Int) : Int := l.foldl mix 11
def sealOf (b s : Int) (l : List Int) : Int := hash (b :: s :: l)
theorem sl1In_r (x a b : Int) : S_sl1In x a b = some (inR x a b) := sl1In_v x a b
theorem iInRange_r (x a b : Int) : S_iInRange x a b = some (inR x a b) := iInRange_v x a b
theorem all_loop {α V β : Type} (l : List α) (p : α → Bool) (hl : l.length ≤ 1099511627776) (st : Nat → V) (K no : Option β) {F : (V → Option β) → V → Option β} {v : V} (hv : v = st 0)
    (h0 : ∀ rec, F rec (st l.length) = K)
    (h1 : ∀ rec k x, l[k]? = some x → k < l.length → F rec (st k) = if p x = true then rec (st (k + 1)) else no) : iter F NN v = if l.all p = true then K else no := by
  refine (iter_list0 l (by omega) (fun k (_ : Unit) => st k) () (fun s _ _ => if s.all p = true then K else no) hv ?_ ?_).trans rfl
  · intro rec _
    rw [h0]; simp
  · intro rec k x _ hx hk hr
    rw [h1 rec k x hx hk, List.all_cons]
    cases p x with
    | true => simpa using hr ()
    | false => simp
theorem getZ0 {α β : Type} {l : List α} {x : α} (h : l[0]? = some x) (K : α → Option β) : getZ l 0 K = K x := getZ_at h K
def noteOk (b : Int) (n : Nat) (x : Note) : Bool := inR x.second 0 1000000 && decide (x.lights.length ≤ 12) && decide (x.lights.length = n) && decide (x.sig = sealOf b x.second x.lights) && x.lights.all (fun v => inR v 0 2)
def later (pv : Option Int) (s : Int) : Bool := match pv with | none => true | some p => decide (p < s)
def goR (n : Nat) : Int → Option Int → List Note → Bool
  | _, _, [] => true
  | b, pv, x :: r => noteOk b n x && later pv x.second && goR n x.sig (some x.second) r
def firstLen (l : List Note) : Nat := match l with | [] => 0 | x :: _ => x.lights.length
def isRecord (l : List Note) : Bool := decide (l.length ≤ 60) && goR (firstLen l) 0 none l
def prevSec (l : List Note) (k : Nat) : Option Int := if k = 0 then none else (l[k - 1]?).map (·.second)
theorem prevSec_succ {l : List Note} {k : Nat} {x : Note} (h : l[k]? = some x) : prevSec l (k + 1) = some x.second := by
  unfold prevSec
  simp [h]
theorem firstLen_at {l : List Note} {x : Note} (h : l[0]? = some x) : firstLen l = x.lights.length := by
  cases l with
  | nil => simp at h
  | cons y t => simp at h; rw [firstLen, h]
theorem mem_at {α : Type} {l : List α} {k : Nat} {x : α} (h : l[k]? = some x) : x ∈ l := List.mem_of_getElem? h
def bs (l : List UInt8) : ByteArray := ⟨l.toArray⟩
theorem bs_eq (l : List UInt8) : ByteArray.mk l.toArray = bs l := rfl
theorem bs_size (l : List UInt8) : (bs l).size = l.length := rfl
def dash : ByteArray := bs [45]
def jn (a b : ByteArray) (r : List ByteArray) : ByteArray := r.foldl (fun a x => a ++ b ++ x) a
def joined (l : List ByteArray) (b : ByteArray) : ByteArray := match l with | [] => dash | x :: r => jn x b r
def tot (l : List ByteArray) (b : ByteArray) : Nat := (l.map (fun x => x.size + b.size)).sum
theorem tot_cons (x : ByteArray) (l : List ByteArray) (b : ByteArray) : tot (x :: l) b = x.size + b.size + tot l b := by simp [tot]
theorem jn_data (b : ByteArray) : ∀ (r : List ByteArray) (a : ByteArray), (jn a b r).data.toList = a.data.toList ++ Lib.joinTail b.data.toList (r.map (·.data.toList))
  | [], a => by simp [jn, Lib.joinTail]
  | x :: r, a => by
    show (jn (a ++ b ++ x) b r).data.toList = _
    rw [jn_data b r]
    simp [Lib.joinTail]
theorem joinB_cons (x : ByteArray) (r : List ByteArray) (b : ByteArray) : joinB (x :: r) b = jn x b r := by
  have h : (joinB (x :: r) b).data.toList = (jn x b r).data.toList := by
    rw [jn_data]
    show (Lib.join _ _).toArray.toList = _
    rw [List.map_cons, Lib.join_cons]
  have h2 : (joinB (x :: r) b).data = (jn x b r).data := Array.toList_inj.1 h
  exact ByteArray.ext h2
theorem jn_size (b : ByteArray) : ∀ (r : List ByteArray) (a : ByteArray), (jn a b r).size = a.size + tot r b
  | [], a => by simp [jn, tot]
  | x :: r, a => by
    show (jn (a ++ b ++ x) b r).size = _
    rw [jn_size b r, tot_cons, ByteArray.size_append, ByteArray.size_append]
    omega
theorem join_len (x : ByteArray) (r : List ByteArray) (b : ByteArray) : (Lib.join ((x :: r).map (·.data.toList)) b.data.toList).length = x.size + tot r b := by
  have h := jn_size b r x
  rw [← joinB_cons] at h
  exact h
theorem ijoined_v (l : List ByteArray) (b : ByteArray) (h : l.length ≤ 1099511627776) (ht : tot l b ≤ 1099511627776) : S_ijoined l b = some (joined l b) := by
  unfold S_ijoined
  cases l with
  | nil => rfl
  | cons x r =>
    have hj : S_strings_Join (x :: r) b = some (jn x b r) := by
      unfold S_strings_Join
      rw [tot_cons] at ht
      rw [ifA_pos ⟨by omega, by rw [join_len]; omega⟩, joinB_cons]
    simp [hj]
    rw [show (((r.length : Int) + 1) == 0) = false by simp; omega]
    rfl
theorem sl39Join_v (l : List ByteArray) (b : ByteArray) (h : l.length ≤ 1099511627776) (ht : tot l b ≤ 1099511627776) : S_sl39Join l b = some (joined l b) := by
  unfold S_sl39Join
  simp
  refine (iter_listJ l (by omega) (fun k acc => (l, b, acc, (k : Int))) (bs []) (fun k acc => (k = 0 → acc = bs []) ∧ acc.size + tot (l.drop k) b ≤ 1099511627776) ⟨fun _ => rfl, by simpa [bs_size] using ht⟩
    (fun s k acc => some (if l.length = 0 then dash else if k = 0 then (match s with | [] => acc | x :: r => jn (acc ++ x) b r) else jn acc b s)) rfl ?_ ?_).trans ?_
  · intro rec acc hJ
    simp [cnd_if]
    by_cases h0 : l = []
    · simp [h0]; rfl
    · simp [h0, jn]
  · intro rec k x acc hJ hx hk hr
    simp only [Int.natCast_succ] at hr
    have hl0 : ¬ l = [] := by rintro rfl; simp at hk
    obtain ⟨hJ0, hJ1⟩ := hJ
    rw [show l.drop k = x :: l.drop (k + 1) by
      have := (List.getElem?_eq_some_iff.1 hx).2
      rw [List.drop_eq_getElem_cons hk, this], tot_cons] at hJ1
    simp [hk, getZ_at hx, W_n1 (show k ≤ 9223372036854775806 by omega), hl0]
    by_cases h0 : k = 0
    · subst h0
      simp
      rw [ifA_pos (by omega)]
      have := hr (acc ++ x) ⟨by omega, by rw [ByteArray.size_append]; omega⟩
      simp [hl0] at this
      simpa using this
    · simp [h0, show 0 < k by omega]
      rw [ifA_pos (by omega), ifA_pos (by omega)]
      have := hr (acc ++ b ++ x) ⟨by omega, by rw [ByteArray.size_append, ByteArray.size_append]; omega⟩
      simp [hl0] at this
      simpa [jn] using this
  · cases l with
    | nil => rfl
    | cons x r => simp [joined]; rw [show bs [] ++ x = x from by apply ByteArray.ext; simp [bs]]
@[simp] theorem bnd_id {α : Type} (x : Option α) : bnd x (fun r => some r) = x := by cases x <;> rfl
@[simp] theorem rws_app_s {β : Type} (l : List ByteArray) (s : ByteArray) (K : List ByteArray → Option β) : rws sR (l.map sR.enc ++ [[Sg s]]) K = K (l ++ [s]) :=
  (congrArg (fun z => rws sR z K) (List.map_append (f := sR.enc) (l₁ := l) (l₂ := [s])).symm).trans (rws_enc sR (l ++ [s]) K)
@[simp] theorem rws_app_i {β : Type} (l : List Int) (s : Int) (K : List Int → Option β) : rws iR (l.map iR.enc ++ [[I s]]) K = K (l ++ [s]) :=
  (congrArg (fun z => rws iR z K) (List.map_append (f := iR.enc) (l₁ := l) (l₂ := [s])).symm).trans (rws_enc iR (l ++ [s]) K)
/-- a list of texts that grows one by one -/
theorem grow_loop {α V β : Type} (l : List α) (f : α → ByteArray) (hl : l.length ≤ 1099511627776) (st : Nat → List ByteArray → V) (K : List ByteArray → Option β) {F : (V → Option β) → V → Option β} {v : V} (hv : v = st 0 [])
    (h0 : ∀ rec acc, acc.length = l.length → F rec (st l.length acc) = K acc)
    (h1 : ∀ rec k x acc, l[k]? = some x → k < l.length → acc.length = k → F rec (st k acc) = rec (st (k + 1) (acc ++ [f x]))) : iter F NN v = K (l.map f) := by
  refine (iter_listJ l (by omega) st [] (fun k acc => acc.length = k) rfl (fun s _ acc => K (acc ++ s.map f)) hv ?_ ?_).trans (by simp)
  · intro rec acc h
    rw [h0 rec acc h]
    simp
  · intro rec k x acc h hx hk hr
    rw [h1 rec k x acc hx hk h, hr _ (by simp [h])]
    simp
def lightCh (v : Int) : ByteArray := if v = 0 then bs [114] else if v = 1 then bs [103] else if v = 2 then bs [99] else bs [46]
theorem lightCh_size (v : Int) : (lightCh v).size = 1 := by
  unfold lightCh
  split <;> (try split) <;> (try split) <;> rfl
theorem tot_const {α : Type} (l : List α) (f : α → ByteArray) (b : ByteArray) (n : Nat) (h : ∀ x ∈ l, (f x).size ≤ n) : tot (l.map f) b ≤ l.length * (n + b.size) := by
  induction l with
  | nil => simp [tot]
  | cons x l ih =>
    rw [List.map_cons, tot_cons, List.length_cons, Nat.succ_mul]
    have := ih fun y hy => h y (List.mem_cons_of_mem _ hy)
    have := h x (List.mem_cons_self ..)
    omega
def formatLights (l : List Int) : ByteArray := joined (l.map lightCh) (bs [])
theorem sFormatLights_v (l : List Int) (h : Sm l) : S_sFormatLights l = some (formatLights l) := by
  unfold Sm at h
  unfold S_sFormatLights formatLights
  simp
  refine (grow_loop l lightCh (by omega) (fun k acc => (l, acc, (k : Int))) (fun a => S_sl39Join a (bs [])) rfl ?_ ?_).trans ?_
  · intro rec acc ha
    simp
    rfl
  · intro rec k x acc hx hk ha
    simp [hk, getZ_at hx, sl1In_v, W_n1 (show k ≤ 9223372036854775806 by omega), ha, show (k + 1) * 16 ≤ 140737488355328 by omega, show k ≤ 1152921504606846975 by omega]
    by_cases h0 : 0 ≤ x
    · by_cases h2 : x ≤ 2
      · rw [W_id (by omega) (by omega)]
        simp [h0, h2]
        rw [ifA_pos ⟨by omega, by show x + 1 ≤ 3; omega⟩]
        have : x = 0 ∨ x = 1 ∨ x = 2 := by omega
        rcases this with rfl | rfl | rfl <;> rfl
      · simp [h2]
        rw [show lightCh x = bs [46] by simp [lightCh, show x ≠ 0 by omega, show x ≠ 1 by omega, show x ≠ 2 by omega]]
        rfl
    · simp [h0]
      rw [show lightCh x = bs [46] by simp [lightCh, show x ≠ 0 by omega, show x ≠ 1 by omega, show x ≠ 2 by omega]]
      rfl
  · refine sl39Join_v _ _ (by simp; omega) ?_
    have := tot_const l lightCh (bs []) 1 fun x _ => Nat.le_of_eq (lightCh_size x)
    simp [bs_size] at this
    omega
theorem iFormatLights_v (l : List Int) (h : Sm l) : S_iFormatLights l = some (formatLights l) := by
  unfold Sm at h
  unfold S_iFormatLights formatLights
  simp
  refine (grow_loop l lightCh (by omega) (fun k acc => (acc, l, (l.length : Int), (k : Int))) (fun a => S_ijoined a (bs [])) rfl ?_ ?_).trans ?_
  · intro rec acc ha
    simp
    rfl
  · intro rec k x acc hx hk ha
    simp [hk, getZ_at hx, W_n1 (show k ≤ 9223372036854775806 by omega), ha, show (k + 1) * 16 ≤ 140737488355328 by omega, show k ≤ 1152921504606846975 by omega]
    by_cases e0 : x = 0
    · simp [e0, lightCh, bs]
    by_cases e1 : x = 1
    · simp [e1, lightCh, bs]
    by_cases e2 : x = 2
    · simp [e2, lightCh, bs]
    simp [e0, e1, e2, lightCh, cnd_if, bs]
  · refine ijoined_v _ _ (by simp; omega) ?_
    have := tot_const l lightCh (bs []) 1 fun x _ => Nat.le_of_eq (lightCh_size x)
    simp [bs_size] at this
    omega
end Go.Sh
