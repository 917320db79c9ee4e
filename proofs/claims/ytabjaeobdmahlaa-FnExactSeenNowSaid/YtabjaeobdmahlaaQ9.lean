/- Plain facts: what the functions compute. -/
import Derived.Test.YtabjaeobdmahlaaHp9
set_option linter.all false
namespace Go.Sh
open Go.Fx
theorem sl1In_v (x a b : Int) : S_sl1In x a b = some (decide (a ≤ x) && decide (x ≤ b)) := by
  unfold S_sl1In
  by_cases h : a ≤ x <;> simp [h, cnd_if]
theorem iInRange_v (x a b : Int) : S_iInRange x a b = some (decide (a ≤ x) && decide (x ≤ b)) := by
  unfold S_iInRange
  by_cases h : a ≤ x <;> simp [h, cnd_if]
theorem W_n1 {n : Nat} (h : n ≤ 9223372036854775806) : W ((n : Int) + 1) = (n : Int) + 1 := W_id (by omega) (by omega)
/-! paths -/
def inR (n a b : Int) : Bool := decide (a ≤ n) && decide (n ≤ b)
def isPath (p : Path) : Bool := inR p.id 1 20 && inR p.kind 1 3 && inR p.src 0 3 && inR p.dst 0 3 && ((p.src == p.dst) == (p.kind == 2))
theorem sIsPath_v (p : Path) : S_sIsPath p = some (isPath p) := by
  unfold S_sIsPath isPath inR
  simp only [sl1In_v, bnd_some]
  cases (decide (1 ≤ p.id) && decide (p.id ≤ 20)) <;> cases (decide (1 ≤ p.kind) && decide (p.kind ≤ 3)) <;> cases (decide (0 ≤ p.src) && decide (p.src ≤ 3)) <;> cases (decide (0 ≤ p.dst) && decide (p.dst ≤ 3)) <;> simp
theorem iIsPath_v (p : Path) : S_iIsPath p = some (isPath p) := by
  unfold S_iIsPath isPath inR
  simp only [iInRange_v, bnd_some]
  cases (decide (1 ≤ p.id) && decide (p.id ≤ 20)) <;> cases (decide (1 ≤ p.kind) && decide (p.kind ≤ 3)) <;> cases (decide (0 ≤ p.src) && decide (p.src ≤ 3)) <;> cases (decide (0 ≤ p.dst) && decide (p.dst ≤ 3)) <;> simp
/-- valid paths, their ids rising -/
def goP : Option Int → List Path → Bool
  | _, [] => true
  | none, p :: r => isPath p && goP (some p.id) r
  | some i, p :: r => isPath p && decide (i < p.id) && goP (some p.id) r
def arePaths (l : List Path) : Bool := decide (l.length ≤ 12) && goP none l
/-- the id ahead of place k -/
def prevId (l : List Path) (k : Nat) : Option Int := if k = 0 then none else (l[k - 1]?).map (·.id)
theorem prevId_succ {l : List Path} {k : Nat} {x : Path} (h : l[k]? = some x) : prevId l (k + 1) = some x.id := by
  unfold prevId
  simp [h]
theorem sArePaths_v (l : List Path) (h : Sm l) : S_sArePaths l = some (arePaths l) := by
  unfold Sm at h
  unfold S_sArePaths
  simp
  refine (iter_list0 l (by omega) (fun k (_ : Unit) => (l, (k : Int))) () (fun s k _ => some (goP (prevId l k) s && decide (l.length ≤ 12))) rfl ?_ ?_).trans ?_
  · intro rec _
    simp [goP]
    omega
  · intro rec k x _ hx hk hr
    have hr' := hr ()
    simp [hk, getZ_at hx, sIsPath_v, W_n1 (show k ≤ 9223372036854775806 by omega)] at hr' ⊢
    cases hp : isPath x with
    | false => cases hq : prevId l k <;> simp [goP, hp]
    | true =>
      simp
      by_cases h0 : k = 0
      · subst h0
        simp [prevId, hx] at hr'
        simp [hr', prevId, goP, hp, hx]
      · have hz : l[k - 1]? = some l[k - 1] := List.getElem?_eq_getElem (by omega)
        have hk1 : W ((k : Int) - 1) = ((k - 1 : Nat) : Int) := by rw [W_id (by omega) (by omega)]; omega
        simp [show 0 < k by omega, hk1, getZ_at hz, hr', prevId_succ hx]
        rw [show prevId l k = some (l[k - 1]).id by unfold prevId; simp [h0, hz]]
        simp [goP, hp, cnd_if]
        by_cases h1 : x.id ≤ (l[k - 1]).id
        · simp [h1, show ¬ ((l[k - 1]).id < x.id) by omega]
        · simp [h1, show (l[k - 1]).id < x.id by omega]
  · simp [prevId, arePaths, Bool.and_comm]
theorem iArePaths_v (l : List Path) (h : Sm l) : S_iArePaths l = some (arePaths l) := by
  unfold Sm at h
  unfold S_iArePaths
  simp
  by_cases h12 : (12 : Int) < (l.length : Int)
  · simp [h12, arePaths, show ¬ (l.length ≤ 12) by omega]
  simp [h12]
  refine (iter_list0 l (by omega) (fun k (_ : Unit) => (l, l, (l.length : Int), (k : Int))) () (fun s k _ => some (goP (prevId l k) s)) rfl ?_ ?_).trans ?_
  · intro rec _
    simp [goP]
  · intro rec k x _ hx hk hr
    have hr' := hr ()
    simp [hk, getZ_at hx, iIsPath_v, W_n1 (show k ≤ 9223372036854775806 by omega)] at hr' ⊢
    cases hp : isPath x with
    | false => cases hq : prevId l k <;> simp [goP, hp]
    | true =>
      simp
      by_cases h0 : k = 0
      · subst h0
        simp [prevId, hx] at hr'
        simp [hr', prevId, goP, hp, hx]
      · have hz : l[k - 1]? = some l[k - 1] := List.getElem?_eq_getElem (by omega)
        have hk1 : W ((k : Int) - 1) = ((k - 1 : Nat) : Int) := by rw [W_id (by omega) (by omega)]; omega
        simp [show 0 < k by omega, hk1, getZ_at hz, hr', prevId_succ hx]
        rw [show prevId l k = some (l[k - 1]).id by unfold prevId; simp [h0, hz]]
        simp [goP, hp, cnd_if]
        by_cases h1 : x.id ≤ (l[k - 1]).id
        · simp [h1, show ¬ ((l[k - 1]).id < x.id) by omega]
        · simp [h1, show (l[k - 1]).id < x.id by omega]
  · simp [prevId, arePaths, show l.length ≤ 12 by omega]
/-! waits -/
def lwG : List Want → Nat → Int → Option Int
  | [], _, n => some n
  | x :: xs, k, n => if k = 0 ∨ n < x.wait then lwG xs (k + 1) x.wait else lwG xs (k + 1) n
def longestWait : List Want → Int
  | [] => 0
  | x :: xs => xs.foldl (fun m y => if m < y.wait then y.wait else m) x.wait
theorem lwG_eq : ∀ (l : List Want) (k : Nat) (n : Int), 0 < k → lwG l k n = some (l.foldl (fun m y => if m < y.wait then y.wait else m) n)
  | [], _, _, _ => rfl
  | x :: xs, k, n, h => by
    simp only [lwG, List.foldl_cons]
    split <;> rw [lwG_eq xs (k + 1) _ (by omega)] <;> congr 2 <;> split <;> simp_all <;> omega
/-! the longest clearing -/
def clearOf (p : Path) : Int := if isPath p then (if p.kind = 1 then 2 else if p.kind = 2 then 5 else 3) else 0
theorem kind_of {p : Path} (h : isPath p = true) : p.kind = 1 ∨ p.kind = 2 ∨ p.kind = 3 := by
  simp [isPath, inR] at h
  omega
theorem sClearOf_v (p : Path) : S_sClearOf p = some (clearOf p) := by
  unfold S_sClearOf clearOf
  rw [sIsPath_v, bnd_some]
  cases h : isPath p with
  | false => rfl
  | true => rcases kind_of h with e | e | e <;> rw [e] <;> rfl
theorem iClearOf_v (p : Path) : S_iClearOf p = some (clearOf p) := by
  unfold S_iClearOf clearOf
  rw [iIsPath_v, bnd_some]
  cases h : isPath p with
  | false => rfl
  | true => rcases kind_of h with e | e | e <;> rw [e] <;> rfl
def longestClear (l : List Path) : Int := if arePaths l then l.foldl (fun n p => if n < clearOf p then clearOf p else n) 0 else 0
theorem sMax_v (a b : Int) : S_sMax a b = some (if a < b then b else a) := by
  unfold S_sMax
  rw [cnd_if]
  split <;> simp_all <;> omega
def waitBound (l : List Path) : Int := W (W ((l.length : Int) + 1) * W (W (W (60 + longestClear l) + 20) + 1))
theorem range_at {n k x : Nat} (h : (List.range n)[k]? = some x) : x = k := by
  rw [List.getElem?_range (by
    have := (List.getElem?_eq_some_iff.1 h).1
    simpa using this)] at h
  exact (Option.some.inj h).symm
theorem tmod_pos {a m : Int} (h : 0 ≤ a) : Int.tmod a m = a % m := Int.tmod_eq_emod_of_nonneg h
theorem sl1In_t {x a b : Int} (h : a ≤ x) (h' : x ≤ b) : S_sl1In x a b = some true := by rw [sl1In_v]; simp [h, h']
theorem iInRange_t {x a b : Int} (h : a ≤ x) (h' : x ≤ b) : S_iInRange x a b = some true := by rw [iInRange_v]; simp [h, h']
theorem tmod_cases (n : Int) {m : Int} (h : 0 < m) : (0 ≤ Int.tmod n m ∧ Int.tmod n m < m ∧ Int.tmod n m = n % m) ∨ (Int.tmod n m < 0 ∧ -m < Int.tmod n m ∧ Int.tmod n m + m = n % m) := by
  have h1 := Int.tmod_lt_of_pos n h
  have h2 := Int.lt_tmod_of_pos n h
  have h3 : n = m * Int.tdiv n m + Int.tmod n m := by have := Int.mul_tdiv_add_tmod n m; omega
  have h4 : n % m = Int.tmod n m % m := by
    conv => lhs; rw [h3]
    rw [Int.add_comm, Int.add_mul_emod_self_left]
  rcases (by omega : Int.tmod n m < 0 ∨ 0 ≤ Int.tmod n m) with hn | hp
  · right
    refine ⟨hn, h2, ?_⟩
    rw [h4, ← Int.add_emod_right, Int.emod_eq_of_lt (by omega) (by omega)]
  · left
    exact ⟨hp, h1, by rw [h4, Int.emod_eq_of_lt hp h1]⟩
def mix (a v : Int) : Int := Int.tmod (W (W (W (a * 1000003) + v % 2147483647) + 13)) 2147483647
def hash (l : List Int) : Int := l.foldl mix 11
def sealOf (b s : Int) (l : List Int) : Int := hash (b :: s :: l)
theorem sl1In_r (x a b : Int) : S_sl1In x a b = some (inR x a b) := sl1In_v x a b
theorem iInRange_r (x a b : Int) : S_iInRange x a b = some (inR x a b) := iInRange_v x a b
theorem all_loop {α V β : Type} (l : List α) (p : α → Bool) (hl : l.length ≤ 1099511627776) (st : Nat → V) (K no : Option β) {F : (V → Option β) → V → Option β} {v : V} (hv : v = st 0)
    (h0 : ∀ rec, F rec (st l.length) = K)
    (h1 : ∀ rec k x, l[k]? = some x → k < l.length → F rec (st k) = if p x = true then rec (st (k + 1)) else no) : iter F NN v = if l.all p = true then K else no := by
  refine (iter_list0 l (by omega) (fun k (_ : Unit) => st k) () (fun s _ _ => if s.all p = true then K else no) hv ?_ ?_).trans rfl
  · intro rec _
    rw [h0]; simp
  · intro rec k x _ hx hk hr
    rw [h1 rec k x hx hk, List.all_cons]
    cases p x with
    | true => simpa using hr ()
    | false => simp
theorem getZ0 {α β : Type} {l : List α} {x : α} (h : l[0]? = some x) (K : α → Option β) : getZ l 0 K = K x := getZ_at h K
def noteOk (b : Int) (n : Nat) (x : Note) : Bool := inR x.second 0 1000000 && decide (x.lights.length ≤ 12) && decide (x.lights.length = n) && decide (x.sig = sealOf b x.second x.lights) && x.lights.all (fun v => inR v 0 2)
def later (pv : Option Int) (s : Int) : Bool := match pv with | none => true | some p => decide (p < s)
def goR (n : Nat) : Int → Option Int → List Note → Bool
  | _, _, [] => true
  | b, pv, x :: r => noteOk b n x && later pv x.second && goR n x.sig (some x.second) r
def firstLen (l : List Note) : Nat := match l with | [] => 0 | x :: _ => x.lights.length
def isRecord (l : List Note) : Bool := decide (l.length ≤ 60) && goR (firstLen l) 0 none l
def prevSec (l : List Note) (k : Nat) : Option Int := if k = 0 then none else (l[k - 1]?).map (·.second)
theorem prevSec_succ {l : List Note} {k : Nat} {x : Note} (h : l[k]? = some x) : prevSec l (k + 1) = some x.second := by
  unfold prevSec
  simp [h]
theorem firstLen_at {l : List Note} {x : Note} (h : l[0]? = some x) : firstLen l = x.lights.length := by
  cases l with
  | nil => simp at h
  | cons y t => simp at h; rw [firstLen, h]
theorem mem_at {α : Type} {l : List α} {k : Nat} {x : α} (h : l[k]? = some x) : x ∈ l := List.mem_of_getElem? h
theorem goR_len {n : Nat} : ∀ {l : List Note} {b : Int} {pv : Option Int}, goR n b pv l = true → ∀ x ∈ l, x.lights.length = n ∧ 0 ≤ x.second ∧ x.second ≤ 1000000 ∧ ∀ v ∈ x.lights, 0 ≤ v
  | [], _, _, _ => fun x hx => by cases hx
  | y :: l, b, pv, h => fun x hx => by
    simp [goR, noteOk, inR] at h
    rcases List.mem_cons.1 hx with rfl | hx
    · exact ⟨h.1.1.1.1.2, by omega, by omega, fun v hv => (h.1.1.2 v hv).1⟩
    · exact goR_len h.2 x hx
theorem isRecord_len {l : List Note} (h : isRecord l = true) : ∀ x ∈ l, x.lights.length = firstLen l ∧ 0 ≤ x.second ∧ x.second ≤ 1000000 ∧ ∀ v ∈ x.lights, 0 ≤ v := by
  simp [isRecord] at h
  exact goR_len h.2
def upto (u : Int) : List Note → Int
  | [] => u
  | y :: _ => if y.second < u then y.second else u
def pos (n : Int) : Int := if 0 < n then n else 0
def goShare (i : Nat) (u : Int) : List Note → Int → Int
  | [], acc => acc
  | x :: r, acc => goShare i u r (if x.lights[i]? = some 1 then W (acc + pos (W (upto u r - x.second))) else acc)
def openShare (l : List Note) (i u : Int) : Int :=
  if isRecord l = false ∨ 1000000 < u then 0 else
  match l with
  | [] => 0
  | x :: _ => if u ≤ x.second ∨ i < 0 ∨ (x.lights.length : Int) ≤ i then 0 else W (Int.tdiv (W (100 * goShare i.toNat u l 0)) (W (u - x.second)))
theorem sMax0 (a : Int) : S_sMax 0 a = some (pos a) := by rw [sMax_v]; rfl
theorem drop_next {α : Type} {l : List α} {k : Nat} {y : α} (h : l[k]? = some y) : l.drop k = y :: l.drop (k + 1) := by
  obtain ⟨h1, h2⟩ := List.getElem?_eq_some_iff.1 h
  rw [List.drop_eq_getElem_cons h1, h2]
def lightOf (e : Note) (i : Int) : Int := if 0 ≤ i then (match e.lights[i.toNat]? with | some v => v | none => -1) else -1
def bs (l : List UInt8) : ByteArray := ⟨l.toArray⟩
theorem bs_eq (l : List UInt8) : ByteArray.mk l.toArray = bs l := rfl
theorem bs_size (l : List UInt8) : (bs l).size = l.length := rfl
def dash : ByteArray := bs [45]
def jn (a b : ByteArray) (r : List ByteArray) : ByteArray := r.foldl (fun a x => a ++ b ++ x) a
def joined (l : List ByteArray) (b : ByteArray) : ByteArray := match l with | [] => dash | x :: r => jn x b r
def tot (l : List ByteArray) (b : ByteArray) : Nat := (l.map (fun x => x.size + b.size)).sum
theorem tot_cons (x : ByteArray) (l : List ByteArray) (b : ByteArray) : tot (x :: l) b = x.size + b.size + tot l b := by simp [tot]
theorem jn_data (b : ByteArray) : ∀ (r : List ByteArray) (a : ByteArray), (jn a b r).data.toList = a.data.toList ++ Lib.joinTail b.data.toList (r.map (·.data.toList))
  | [], a => by simp [jn, Lib.joinTail]
  | x :: r, a => by
    show (jn (a ++ b ++ x) b r).data.toList = _
    rw [jn_data b r]
    simp [Lib.joinTail]
theorem joinB_cons (x : ByteArray) (r : List ByteArray) (b : ByteArray) : joinB (x :: r) b = jn x b r := by
  have h : (joinB (x :: r) b).data.toList = (jn x b r).data.toList := by
    rw [jn_data]
    show (Lib.join _ _).toArray.toList = _
    rw [List.map_cons, Lib.join_cons]
  have h2 : (joinB (x :: r) b).data = (jn x b r).data := Array.toList_inj.1 h
  exact ByteArray.ext h2
theorem jn_size (b : ByteArray) : ∀ (r : List ByteArray) (a : ByteArray), (jn a b r).size = a.size + tot r b
  | [], a => by simp [jn, tot]
  | x :: r, a => by
    show (jn (a ++ b ++ x) b r).size = _
    rw [jn_size b r, tot_cons, ByteArray.size_append, ByteArray.size_append]
    omega
theorem join_len (x : ByteArray) (r : List ByteArray) (b : ByteArray) : (Lib.join ((x :: r).map (·.data.toList)) b.data.toList).length = x.size + tot r b := by
  have h := jn_size b r x
  rw [← joinB_cons] at h
  exact h
@[simp] theorem bnd_id {α : Type} (x : Option α) : bnd x (fun r => some r) = x := by cases x <;> rfl
@[simp] theorem rws_app_s {β : Type} (l : List ByteArray) (s : ByteArray) (K : List ByteArray → Option β) : rws sR (l.map sR.enc ++ [[Sg s]]) K = K (l ++ [s]) :=
  (congrArg (fun z => rws sR z K) (List.map_append (f := sR.enc) (l₁ := l) (l₂ := [s])).symm).trans (rws_enc sR (l ++ [s]) K)
@[simp] theorem rws_app_i {β : Type} (l : List Int) (s : Int) (K : List Int → Option β) : rws iR (l.map iR.enc ++ [[I s]]) K = K (l ++ [s]) :=
  (congrArg (fun z => rws iR z K) (List.map_append (f := iR.enc) (l₁ := l) (l₂ := [s])).symm).trans (rws_enc iR (l ++ [s]) K)
/-- a list of texts that grows one by one -/
theorem grow_loop {α V β : Type} (l : List α) (f : α → ByteArray) (hl : l.length ≤ 1099511627776) (st : Nat → List ByteArray → V) (K : List ByteArray → Option β) {F : (V → Option β) → V → Option β} {v : V} (hv : v = st 0 [])
    (h0 : ∀ rec acc, acc.length = l.length → F rec (st l.length acc) = K acc)
    (h1 : ∀ rec k x acc, l[k]? = some x → k < l.length → acc.length = k → F rec (st k acc) = rec (st (k + 1) (acc ++ [f x]))) : iter F NN v = K (l.map f) := by
  refine (iter_listJ l (by omega) st [] (fun k acc => acc.length = k) rfl (fun s _ acc => K (acc ++ s.map f)) hv ?_ ?_).trans (by simp)
  · intro rec acc h
    rw [h0 rec acc h]
    simp
  · intro rec k x acc h hx hk hr
    rw [h1 rec k x acc hx hk h, hr _ (by simp [h])]
    simp
def lightCh (v : Int) : ByteArray := if v = 0 then bs [114] else if v = 1 then bs [103] else if v = 2 then bs [99] else bs [46]
theorem lightCh_size (v : Int) : (lightCh v).size = 1 := by
  unfold lightCh
  split <;> (try split) <;> (try split) <;> rfl
theorem tot_const {α : Type} (l : List α) (f : α → ByteArray) (b : ByteArray) (n : Nat) (h : ∀ x ∈ l, (f x).size ≤ n) : tot (l.map f) b ≤ l.length * (n + b.size) := by
  induction l with
  | nil => simp [tot]
  | cons x l ih =>
    rw [List.map_cons, tot_cons, List.length_cons, Nat.succ_mul]
    have := ih fun y hy => h y (List.mem_cons_of_mem _ hy)
    have := h x (List.mem_cons_self ..)
    omega
def formatLights (l : List Int) : ByteArray := joined (l.map lightCh) (bs [])
def waitsBounded (t : Town) : Bool := t.wants.all fun x => decide (x.wait ≤ waitBound t.paths)
theorem eqs_loop {α V β : Type} [DecidableEq α] (a b : List α) (hl : a.length = b.length) (h : a.length ≤ 1099511627776) (st : Nat → V) (K no : Option β) {F : (V → Option β) → V → Option β} {v : V} (hv : v = st 0)
    (h0 : ∀ rec, F rec (st a.length) = K) (h1 : ∀ rec k x y, a[k]? = some x → b[k]? = some y → k < a.length → F rec (st k) = if x = y then rec (st (k + 1)) else no) :
    iter F NN v = if a = b then K else no := by
  refine (iter_list0 a (by omega) (fun k (_ : Unit) => st k) () (fun l k _ => if l = b.drop k then K else no) hv ?_ ?_).trans (by simp)
  · intro rec _
    rw [h0, hl, List.drop_length]
    simp
  · intro rec k x _ hx hk hr
    have hkb : k < b.length := by omega
    have hy : b[k]? = some b[k] := List.getElem?_eq_getElem hkb
    rw [h1 rec k x _ hx hy hk, hr (), List.drop_eq_getElem_cons hkb]
    by_cases e : x = b[k]
    · rw [if_pos e]
      simp only [List.cons.injEq, e, true_and]
    · rw [if_neg e, if_neg fun h => e (List.cons.inj h).1]
theorem eqB_path (p q : Path) : eqB [I p.id, I p.kind, I p.src, I p.dst] [I q.id, I q.kind, I q.src, I q.dst] = decide (p = q) := by
  cases p; cases q; simp [eqB, eqV]; grind
theorem eqB_want (p q : Want) : eqB [I p.path, I p.wait] [I q.path, I q.wait] = decide (p = q) := by
  cases p; cases q; simp [eqB, eqV]; grind
theorem eqB_lamp (p q : Lamp) : eqB [I p.path, I p.colour, Bl p.broken] [I q.path, I q.colour, Bl q.broken] = decide (p = q) := by
  cases p; cases q; simp [eqB, eqV]; grind
theorem eqB_prio (p q : Prio) : eqB [I p.path, I p.left] [I q.path, I q.left] = decide (p = q) := by
  cases p; cases q; simp [eqB, eqV]; grind
theorem len_bne {α : Type} {a b : List α} (h : a.length = b.length) : (((a.length : Nat) : Int) != ((b.length : Nat) : Int)) = false := by simp [h]
theorem len_bne' {α : Type} {a b : List α} (h : ¬ a.length = b.length) : (((a.length : Nat) : Int) != ((b.length : Nat) : Int)) = true := by simp; omega
theorem ne_of_len {α : Type} {a b : List α} (h : ¬ a.length = b.length) : ¬ a = b := fun e => h (by rw [e])
theorem NN_64 : ∃ n, NN = n + 64 := ⟨NN - 64, by rw [NN_eq]⟩
/-- whether the ways from a to b and from c to d cross, round a circle of eight -/
def crossI (a b c d : Int) : Bool := if a = b ∨ a = c ∨ a = d ∨ b = c ∨ b = d ∨ c = d then false else (decide (Int.tmod (c - a + 8) 8 < Int.tmod (b - a + 8) 8) != decide (Int.tmod (d - a + 8) 8 < Int.tmod (b - a + 8) 8))
theorem iInterleave_v {a b c d : Int} (ha : 0 ≤ a ∧ a ≤ 7) (hb : 0 ≤ b ∧ b ≤ 7) (hc : 0 ≤ c ∧ c ≤ 7) (hd : 0 ≤ d ∧ d ≤ 7) : S_iInterleave a b c d = some (crossI a b c d) := by
  unfold S_iInterleave crossI
  obtain ⟨n, hn⟩ := NN_64
  rw [hn]
  have e : ∀ K : List Int → Option Bool, rws iR [[I a], [I b], [I c], [I d]] K = K [a, b, c, d] := fun _ => rfl
  have w1 : W (c - a) = c - a := W_id (by omega) (by omega)
  have w2 : W (b - a) = b - a := W_id (by omega) (by omega)
  have w3 : W (d - a) = d - a := W_id (by omega) (by omega)
  have w4 : W (c - a + 8) = c - a + 8 := W_id (by omega) (by omega)
  have w5 : W (b - a + 8) = b - a + 8 := W_id (by omega) (by omega)
  have w6 : W (d - a + 8) = d - a + 8 := W_id (by omega) (by omega)
  simp only [e, geti_i, len_i, rws_i]
  simp [iter, iInRange_v, getZ, W_id, ha, hb, hc, hd, w1, w2, w3, w4, w5, w6, cnd_if]
  grind
def arm (n : Int) : Prop := n = 0 ∨ n = 1 ∨ n = 2 ∨ n = 3
set_option maxRecDepth 100000 in
theorem sInterleave_v {a b c d : Int} (ha : arm a) (hb : arm b) (hc : arm c) (hd : arm d) : S_sInterleave (2 * a) (2 * b + 1) (2 * c) (2 * d + 1) = some (crossI (2 * a) (2 * b + 1) (2 * c) (2 * d + 1)) := by
  unfold S_sInterleave
  obtain ⟨n, hn⟩ := NN_64
  rw [hn]
  rcases ha with rfl | rfl | rfl | rfl <;> rcases hb with rfl | rfl | rfl | rfl <;> rcases hc with rfl | rfl | rfl | rfl <;> rcases hd with rfl | rfl | rfl | rfl <;> rfl
def conflict (a b : Path) : Bool :=
  if isPath a = false ∨ isPath b = false then false
  else if a.kind = 2 ∧ b.kind = 2 then false
  else if a.kind = 2 then b.src == a.src || b.dst == a.src
  else if b.kind = 2 then a.src == b.src || a.dst == b.src
  else if a.src = b.src then false
  else if a.dst = b.dst then true
  else crossI (2 * a.src) (2 * a.dst + 1) (2 * b.src) (2 * b.dst + 1)
theorem arm_src {p : Path} (h : isPath p = true) : arm p.src := by
  simp [isPath, inR] at h
  unfold arm; omega
theorem arm_dst {p : Path} (h : isPath p = true) : arm p.dst := by
  simp [isPath, inR] at h
  unfold arm; omega
theorem arm_rg {n : Int} (h : arm n) : 0 ≤ n ∧ n ≤ 3 := by unfold arm at h; omega
theorem sInPlace_v {n : Int} (h : arm n) : S_sInPlace n = some (2 * n) := by rcases h with rfl | rfl | rfl | rfl <;> rfl
theorem sOutPlace_v {n : Int} (h : arm n) : S_sOutPlace n = some (2 * n + 1) := by rcases h with rfl | rfl | rfl | rfl <;> rfl
theorem iInPlace_v {n : Int} (h : arm n) : S_iInPlace n = some (2 * n) := by rcases h with rfl | rfl | rfl | rfl <;> rfl
theorem iOutPlace_v {n : Int} (h : arm n) : S_iOutPlace n = some (2 * n + 1) := by rcases h with rfl | rfl | rfl | rfl <;> rfl
theorem sConflict_v (a b : Path) : S_sConflict a b = some (conflict a b) := by
  unfold S_sConflict conflict
  simp only [sIsPath_v, bnd_some]
  cases ha : isPath a with
  | false => simp
  | true =>
  cases hb : isPath b with
  | false => simp
  | true =>
  simp [sInPlace_v (arm_src ha), sOutPlace_v (arm_dst ha), sInPlace_v (arm_src hb), sOutPlace_v (arm_dst hb), sInterleave_v (arm_src ha) (arm_dst ha) (arm_src hb) (arm_dst hb), cnd_if]
  grind
theorem iConflict_v (a b : Path) : S_iConflict a b = some (conflict a b) := by
  unfold S_iConflict conflict
  simp only [iIsPath_v, bnd_some]
  cases ha : isPath a with
  | false => simp
  | true =>
  cases hb : isPath b with
  | false => simp
  | true =>
  have r1 := arm_rg (arm_src ha)
  have r2 := arm_rg (arm_dst ha)
  have r3 := arm_rg (arm_src hb)
  have r4 := arm_rg (arm_dst hb)
  have hi := iInterleave_v (a := 2 * a.src) (b := 2 * a.dst + 1) (c := 2 * b.src) (d := 2 * b.dst + 1) (by omega) (by omega) (by omega) (by omega)
  have hz : a.src = b.src → crossI (2 * a.src) (2 * a.dst + 1) (2 * b.src) (2 * b.dst + 1) = false := fun h => by simp [crossI, h]
  simp [iInPlace_v (arm_src ha), iOutPlace_v (arm_dst ha), iInPlace_v (arm_src hb), iOutPlace_v (arm_dst hb), hi, cnd_if]
  grind
def has (l : List Int) (n : Int) : Bool := l.any fun x => x == n
theorem sl6Has_v (l : List Int) (n : Int) (h : Sm l) : S_sl6Has l n = some (has l n) := by
  unfold Sm at h
  unfold S_sl6Has has
  simp
  refine (iter_list0 l (by omega) (fun k (_ : Unit) => (l, n, (k : Int))) () (fun s _ _ => some (s.any fun x => x == n)) rfl ?_ ?_).trans (by simp)
  · intro rec _; simp
  · intro rec k x _ hx hk hr
    have hr' := hr ()
    simp only [Int.natCast_succ] at hr'
    simp [hk, getZ_at hx, W_n1 (show k ≤ 9223372036854775806 by omega), cnd_if]
    by_cases e : x = n
    · simp [e]
    · simp [e, hr']
/-- where a loop finds it -/
theorem findIdx_some' {α : Type} (p : α → Bool) : ∀ l : List α, (l.findIdx? p).isSome = l.any p
  | [] => rfl
  | x :: l => by
    rw [List.findIdx?_cons, List.any_cons]
    cases p x with
    | true => rfl
    | false => simp [findIdx_some' p l]
theorem slices_Contains_int_int_v (l : List Int) (n : Int) (h : Sm l) : S_slices_Contains_int_int l n = some (has l n) := by
  unfold Sm at h
  unfold S_slices_Contains_int_int S_slices_Index_int_int has
  simp
  generalize hI : iter (_ : (List Int × Int × Int × Int → Option Int) → _ → Option Int) NN _ = I
  have hI' : I = match l.findIdx? (fun x => x == n) with | some i => some (i : Int) | none => some (-1) := by
    rw [← hI]
    refine (iter_list0 l (by omega) (fun k (_ : Unit) => (l, n, (l.length : Int), (k : Int))) () (fun s k _ => match s.findIdx? (fun x => x == n) with | some i => some ((k + i : Nat) : Int) | none => some (-1)) rfl ?_ ?_).trans (by cases l.findIdx? _ <;> simp)
    · intro rec _; simp
    · intro rec k x _ hx hk hr
      have hr' := hr ()
      simp only [Int.natCast_succ] at hr'
      rw [List.findIdx?_cons]
      simp [hk, getZ_at hx, W_n1 (show k ≤ 9223372036854775806 by omega), cnd_if]
      by_cases e : x = n
      · simp [e]
      · rw [if_neg (fun h => e h.symm), hr']
        simp [e]
        cases (l.drop (k + 1)).findIdx? (fun x => x == n) with
        | none => simp
        | some i => simp; omega
  rw [hI', ← findIdx_some']
  cases l.findIdx? (fun x => x == n) <;> simp
theorem find_loop {α V β : Type} (l : List α) (p : α → Bool) (hl : l.length ≤ 1099511627776) (st : Nat → V) (K : Nat → Option β) (no : Option β) {F : (V → Option β) → V → Option β} {v : V} (hv : v = st 0)
    (h0 : ∀ rec, F rec (st l.length) = no)
    (h1 : ∀ rec k x, l[k]? = some x → k < l.length → F rec (st k) = if p x = true then K k else rec (st (k + 1))) : iter F NN v = match l.findIdx? p with | some i => K i | none => no := by
  refine (iter_list0 l (by omega) (fun k (_ : Unit) => st k) () (fun s k _ => match s.findIdx? p with | some i => K (k + i) | none => no) hv ?_ ?_).trans ?_
  · intro rec _
    rw [h0]; simp
  · intro rec k x _ hx hk hr
    rw [h1 rec k x hx hk, List.findIdx?_cons]
    cases p x with
    | true => simp
    | false =>
      rw [if_neg (by simp), hr ()]
      cases (l.drop (k + 1)).findIdx? p with
      | none => simp
      | some i => simp; congr 1; omega
  · cases l.findIdx? p <;> simp
def findPath (l : List Path) (id : Int) : Int := match l.findIdx? (fun p => p.id == id) with | some i => (i : Int) | none => -1
theorem sFindPath_v (l : List Path) (id : Int) (h : Sm l) : S_sFindPath l id = some (findPath l id) := by
  unfold Sm at h
  unfold S_sFindPath findPath
  simp
  refine (find_loop l (fun p => p.id == id) (by omega) (fun k => (l, id, (k : Int))) (fun k => some (k : Int)) (some (-1)) rfl ?_ ?_).trans ?_
  · intro rec; simp
  · intro rec k x hx hk
    simp [hk, getZ_at hx, W_n1 (show k ≤ 9223372036854775806 by omega), cnd_if]
  · cases l.findIdx? _ <;> rfl
theorem iFindPath_v (l : List Path) (id : Int) (h : Sm l) : S_iFindPath l id = some (findPath l id) := by
  unfold Sm at h
  unfold S_iFindPath S_slices_IndexFunc_loop_example_g03006_impl_Path_loop_example_g03006_impl_Path S_iFindPath_1 findPath
  simp
  refine (find_loop l (fun p => p.id == id) (by omega) (fun k => (l, id, (l.length : Int), (k : Int))) (fun k => some (k : Int)) (some (-1)) rfl ?_ ?_).trans ?_
  · intro rec; simp
  · intro rec k x hx hk
    simp [hk, getZ_at hx, W_n1 (show k ≤ 9223372036854775806 by omega), cnd_if]
  · cases l.findIdx? _ <;> rfl
theorem findPath_lt {l : List Path} {id : Int} (h : ¬ findPath l id < 0) : ∃ (i : Nat) (x : Path), l[i]? = some x ∧ findPath l id = (i : Int) ∧ x.id = id := by
  unfold findPath at h ⊢
  cases hf : l.findIdx? (fun p => p.id == id) with
  | none => rw [hf] at h; simp at h
  | some i =>
    have := List.findIdx?_eq_some_iff_getElem.1 hf
    obtain ⟨h1, h2, _⟩ := this
    exact ⟨i, l[i], List.getElem?_eq_getElem h1, rfl, by simpa using h2⟩
def pathAt (l : List Path) (id : Int) : Path := (l[(findPath l id).toNat]?).getD default
theorem getZ_find {β : Type} {l : List Path} {id : Int} (h : ¬ findPath l id < 0) (K : Path → Option β) : getZ l (findPath l id) K = K (pathAt l id) := by
  obtain ⟨i, x, h1, h2, _⟩ := findPath_lt h
  unfold pathAt
  rw [h2, getZ_at h1, Int.toNat_natCast, h1]
  rfl
def prevOk (ids : List Int) (k : Nat) (x : Int) : Bool := if k = 0 then true else match ids[k - 1]? with | some y => decide (y < x) | none => true
def noClash (l : List Path) (x y : Int) : Bool := !conflict (pathAt l x) (pathAt l y)
def goT (l : List Path) (ids : List Int) : Nat → List Int → Bool
  | _, [] => true
  | k, x :: r => !decide (findPath l x < 0) && prevOk ids k x && (ids.take k).all (noClash l x) && goT l ids (k + 1) r
def together (l : List Path) (ids : List Int) : Bool := goT l ids 0 ids && arePaths l
theorem take_at' {α : Type} {l : List α} {k j : Nat} {x : α} (h : (l.take k)[j]? = some x) : l[j]? = some x := by
  rw [List.getElem?_take] at h
  split at h
  · exact h
  · cases h
theorem mem_take_succ {α : Type} {l : List α} {k : Nat} {x y : α} (hx : l[k]? = some x) (h : y ∈ l.take (k + 1)) : y ∈ l.take k ∨ y = x := by
  rw [List.take_add_one, hx] at h
  simpa using h
theorem sIsTogether_v (l : List Path) (ids : List Int) (h : Sm l) (hi : Sm ids) : S_sIsTogether l ids = some (together l ids) := by
  unfold S_sIsTogether together
  simp
  have hi' := hi
  unfold Sm at hi'
  refine (iter_listJ ids (by omega) (fun k (_ : Unit) => (l, ids, (k : Int))) () (fun k _ => ∀ y ∈ ids.take k, ¬ findPath l y < 0) (by simp) (fun s k _ => some (goT l ids k s && arePaths l)) rfl ?_ ?_).trans rfl
  · intro rec _ _
    simp [sArePaths_v l h, goT]
  · intro rec k x _ hJ hx hk hr
    simp only [Int.natCast_succ] at hr
    have hk2 : k ≤ 9223372036854775806 := by omega
    simp [hk, getZ_at hx, sFindPath_v l _ h, goT]
    by_cases c1 : findPath l x < 0
    · simp [c1]
    have hr' := hr () fun y hy => by
      rcases mem_take_succ hx hy with h1 | rfl
      · exact hJ y h1
      · exact c1
    simp only [c1, decide_false, cnd_ff, Bool.not_false, Bool.true_and]
    have hlen : (ids.take k).length = k := by rw [List.length_take]; omega
    generalize hI : iter (_ : (List Path × List Int × Int × Int × Int → Option Bool) → _ → Option Bool) NN _ = I
    have hI' : I = if (ids.take k).all (noClash l x) = true then some (goT l ids (k + 1) (ids.drop (k + 1)) && arePaths l) else some false := by
      rw [← hI]
      refine all_loop (ids.take k) (noClash l x) (by omega) (fun j => (l, ids, (k : Int), findPath l x, (j : Int))) _ _ rfl ?_ ?_
      · intro rec'
        simp [hlen, W_n1 hk2, hr']
      · intro rec' j y hy hj
        have hy' := take_at' hy
        have hj' : j < k := by omega
        simp [hj', getZ_find c1, getZ_at hy', sFindPath_v l _ h, getZ_find (hJ y (mem_at hy)), sConflict_v, W_n1 (show j ≤ 9223372036854775806 by omega), cnd_if, noClash]
        cases conflict (pathAt l x) (pathAt l y) <;> simp
    rw [hI']
    generalize (ids.take k).all (noClash l x) = A
    by_cases h0 : k = 0
    · subst h0
      simp [prevOk]
      cases A <;> simp
    · have hz : ids[k - 1]? = some ids[k - 1] := List.getElem?_eq_getElem (by omega)
      have hk1 : W ((k : Int) - 1) = ((k - 1 : Nat) : Int) := by rw [W_id (by omega) (by omega)]; omega
      simp [show 0 < k by omega, hk1, getZ_at hz]
      rw [show prevOk ids k x = decide (ids[k - 1] < x) by unfold prevOk; simp [h0, hz]]
      by_cases c4 : x ≤ ids[k - 1]
      · simp [c4, show ¬ ids[k - 1] < x by omega]
      · simp [c4, show ids[k - 1] < x by omega]
        cases A <;> simp
theorem iIsTogether_v (l : List Path) (ids : List Int) (h : Sm l) (hi : Sm ids) : S_iIsTogether l ids = some (together l ids) := by
  unfold S_iIsTogether together
  simp [iArePaths_v l h]
  have hi' := hi
  unfold Sm at hi'
  cases hp : arePaths l with
  | false => simp
  | true =>
  simp
  refine (iter_listJ ids (by omega) (fun k (_ : Unit) => (l, ids, ids, (ids.length : Int), (k : Int))) () (fun k _ => ∀ y ∈ ids.take k, ¬ findPath l y < 0) (by simp) (fun s k _ => some (goT l ids k s)) rfl ?_ ?_).trans rfl
  · intro rec _ _
    simp [goT]
  · intro rec k x _ hJ hx hk hr
    simp only [Int.natCast_succ] at hr
    have hk2 : k ≤ 9223372036854775806 := by omega
    simp [hk, getZ_at hx, iFindPath_v l _ h, goT]
    by_cases c1 : findPath l x < 0
    · simp [c1]
    have hr' := hr () fun y hy => by
      rcases mem_take_succ hx hy with h1 | rfl
      · exact hJ y h1
      · exact c1
    simp only [c1, decide_false, cnd_ff, Bool.not_false, Bool.true_and]
    have hlen : (ids.take k).length = k := by rw [List.length_take]; omega
    generalize hI : iter (_ : (List Path × List Int × Int × List Int × Int × Int × List Int × Int × Int → Option Bool) → _ → Option Bool) NN _ = I
    have hI' : I = if (ids.take k).all (noClash l x) = true then some (goT l ids (k + 1) (ids.drop (k + 1))) else some false := by
      rw [← hI]
      refine all_loop (ids.take k) (noClash l x) (by omega) (fun j => (l, ids, findPath l x, ids, (ids.length : Int), (k : Int), ids.take k, ((ids.take k).length : Int), (j : Int))) _ _ (by simp) ?_ ?_
      · intro rec'
        simp [hlen, W_n1 hk2, hr']
      · intro rec' j y hy hj
        have hj' : j < k := by omega
        simp [hlen, hj', getZ_find c1, getZ_at hy, iFindPath_v l _ h, getZ_find (hJ y (mem_at hy)), iConflict_v, W_n1 (show j ≤ 9223372036854775806 by omega), cnd_if, noClash]
        cases conflict (pathAt l x) (pathAt l y) <;> simp
    rw [hI']
    generalize (ids.take k).all (noClash l x) = A
    have hkl : k ≤ ids.length := by omega
    by_cases h0 : k = 0
    · subst h0
      simp [prevOk]
      cases A <;> simp
    · have hz : ids[k - 1]? = some ids[k - 1] := List.getElem?_eq_getElem (by omega)
      have hk1 : W ((k : Int) - 1) = ((k - 1 : Nat) : Int) := by rw [W_id (by omega) (by omega)]; omega
      simp [show 0 < k by omega, hk1, getZ_at hz, hkl]
      rw [show prevOk ids k x = decide (ids[k - 1] < x) by unfold prevOk; simp [h0, hz]]
      by_cases c4 : x ≤ ids[k - 1]
      · simp [c4, show ¬ ids[k - 1] < x by omega]
      · simp [c4, show ids[k - 1] < x by omega]
        cases A <;> simp
@[simp] theorem rws_app_i' {β : Type} (l : List Int) (s : Int) (K : List Int → Option β) : rws iR (l.map iR.enc ++ [[I s]]) K = K (l ++ [s]) :=
  (congrArg (fun z => rws iR z K) (List.map_append (f := iR.enc) (l₁ := l) (l₂ := [s])).symm).trans (rws_enc iR (l ++ [s]) K)
@[simp] theorem bnd_id' {α : Type} (x : Option α) : bnd x (fun r => some r) = x := by cases x <;> rfl
/-- a list that takes what passes -/
theorem filter_loop {α β V : Type} (l : List α) (p : α → Bool) (hl : l.length ≤ 1099511627776) (st : Nat → List α → V) (K : List α → Option β) {F : (V → Option β) → V → Option β} {v : V} (hv : v = st 0 [])
    (h0 : ∀ rec acc, acc.length ≤ l.length → F rec (st l.length acc) = K acc)
    (h1 : ∀ rec k x acc, l[k]? = some x → k < l.length → acc.length ≤ k → F rec (st k acc) = rec (st (k + 1) (if p x = true then acc ++ [x] else acc))) : iter F NN v = K (l.filter p) := by
  refine (iter_listJ l (by omega) st [] (fun k acc => acc.length ≤ k) (Nat.le_refl _) (fun s _ acc => K (acc ++ s.filter p)) hv ?_ ?_).trans (by simp)
  · intro rec acc h
    rw [h0 rec acc h]
    simp
  · intro rec k x acc h hx hk hr
    rw [h1 rec k x acc hx hk h]
    cases hp : p x with
    | true => rw [if_pos rfl, hr _ (by simp; omega), List.filter_cons_of_pos hp]; simp
    | false => rw [if_neg (by simp), hr _ (by omega), List.filter_cons_of_neg (by simp [hp])]
def closes (a b : List Int) : List Int := a.filter fun x => !has b x
theorem sCloses_v (a b : List Int) (h : Sm a) (hb : Sm b) : S_sCloses a b = some (closes a b) := by
  have h' := h
  unfold Sm at h'
  unfold S_sCloses closes
  simp
  refine (filter_loop a (fun x => !has b x) (by omega) (fun k acc => (a, b, acc, (k : Int))) some rfl ?_ ?_)
  · intro rec acc ha; simp
  · intro rec k x acc hx hk ha
    simp [hk, getZ_at hx, sl6Has_v b _ hb, W_n1 (show k ≤ 9223372036854775806 by omega), show (acc.length + 1) * 8 ≤ 140737488355328 by omega, show acc.length ≤ 1152921504606846975 by omega]
    cases has b x <;> simp
theorem iCloses_v (a b : List Int) (h : Sm a) (hb : Sm b) : S_iCloses a b = some (closes a b) := by
  have h' := h
  unfold Sm at h'
  unfold S_iCloses S_isieve closes
  simp
  refine (filter_loop a (fun x => !has b x) (by omega) (fun k acc => (b, false, acc, a, (a.length : Int), (k : Int))) some rfl ?_ ?_)
  · intro rec acc ha; simp
  · intro rec k x acc hx hk ha
    simp [hk, getZ_at hx, slices_Contains_int_int_v b _ hb, W_n1 (show k ≤ 9223372036854775806 by omega), show (acc.length + 1) * 8 ≤ 140737488355328 by omega, show acc.length ≤ 1152921504606846975 by omega]
    cases has b x <;> simp
theorem goT_find {l : List Path} {ids : List Int} : ∀ {s : List Int} {k : Nat}, goT l ids k s = true → ∀ x ∈ s, ¬ findPath l x < 0
  | [], _, _ => fun x hx => by cases hx
  | y :: s, k, h => fun x hx => by
    simp only [goT, Bool.and_eq_true, Bool.not_eq_true', decide_eq_false_iff_not] at h
    rcases List.mem_cons.1 hx with rfl | hx
    · exact h.1.1.1
    · exact goT_find h.2 x hx
theorem together_find {l : List Path} {ids : List Int} (h : together l ids = true) : ∀ x ∈ ids, ¬ findPath l x < 0 := by
  simp only [together, Bool.and_eq_true] at h
  exact goT_find h.1
theorem closes_sub {a b : List Int} {x : Int} (h : x ∈ closes a b) : x ∈ a := (List.mem_filter.1 h).1
theorem closes_sm {a b : List Int} (h : Sm a) : Sm (closes a b) := Nat.le_trans (List.length_filter_le _ _) h
def most (n c : Int) : Int := if n < c then c else n
def stepC (l : List Path) (x : Int) (n y : Int) : Int := if conflict (pathAt l x) (pathAt l y) then most n (clearOf (pathAt l x)) else n
def clearBetween (l : List Path) (a b : List Int) : Int :=
  if together l a = true ∧ together l b = true then (closes a b).foldl (fun n x => (closes b a).foldl (stepC l x) n) 0 else 0
theorem iClearBetween_v (l : List Path) (a b : List Int) (h : Sm l) (ha : Sm a) (hb : Sm b) : S_iClearBetween l a b = some (clearBetween l a b) := by
  unfold S_iClearBetween clearBetween
  simp [iIsTogether_v l _ h ha, iIsTogether_v l _ h hb, iCloses_v _ _ ha hb, iCloses_v _ _ hb ha]
  cases t1 : together l a with
  | false => simp
  | true =>
  cases t2 : together l b with
  | false => simp
  | true =>
  simp
  have hA := closes_sm (b := b) ha
  have hB := closes_sm (b := a) hb
  unfold Sm at hA hB
  refine (iter_list0 (closes a b) (by omega) (fun k n => (l, a, b, n, closes a b, ((closes a b).length : Int), (k : Int))) 0 (fun s _ n => some (s.foldl (fun n x => (closes b a).foldl (stepC l x) n) n)) rfl ?_ ?_).trans rfl
  · intro rec n; simp
  · intro rec k x n hx hk hr
    simp only [Int.natCast_succ] at hr
    have hfx := together_find t1 x (closes_sub (mem_at hx))
    simp [hk, getZ_at hx, iCloses_v _ _ hb ha]
    refine (iter_list0 (closes b a) (by omega) (fun j n => (l, a, b, n, x, closes a b, ((closes a b).length : Int), (k : Int), closes b a, ((closes b a).length : Int), (j : Int))) n (fun s _ n => rec (l, a, b, s.foldl (stepC l x) n, closes a b, ((closes a b).length : Int), (k : Int) + 1)) rfl ?_ ?_).trans ?_
    · intro rec' n
      simp [W_n1 (show k ≤ 9223372036854775806 by omega)]
    · intro rec' j y n hy hj hr'
      simp only [Int.natCast_succ] at hr'
      have hfy := together_find t2 y (closes_sub (mem_at hy))
      simp [hj, getZ_at hy, iFindPath_v l _ h, getZ_find hfx, getZ_find hfy, iConflict_v, iClearOf_v, W_n1 (show j ≤ 9223372036854775806 by omega), cnd_if]
      cases hc : conflict (pathAt l x) (pathAt l y) <;> simp [stepC, most, hc, hr']
    · simp [hr]
theorem sClearBetween_v (l : List Path) (a b : List Int) (h : Sm l) (ha : Sm a) (hb : Sm b) : S_sClearBetween l a b = some (clearBetween l a b) := by
  unfold S_sClearBetween clearBetween
  simp [sCloses_v _ _ ha hb, sCloses_v _ _ hb ha]
  have hA := closes_sm (b := b) ha
  have hB := closes_sm (b := a) hb
  unfold Sm at hA hB
  refine (iter_list0 (closes a b) (by omega) (fun k n => (l, a, b, n, closes a b, closes b a, (k : Int))) 0 (fun s _ n => some (if together l a = true ∧ together l b = true then s.foldl (fun n x => (closes b a).foldl (stepC l x) n) n else n)) rfl ?_ ?_).trans rfl
  · intro rec n; simp
  · intro rec k x n hx hk hr
    simp only [Int.natCast_succ] at hr
    simp [hk, getZ_at hx, sIsTogether_v l _ h ha, sIsTogether_v l _ h hb]
    cases t1 : together l a with
    | false => simp
    | true =>
    cases t2 : together l b with
    | false => simp
    | true =>
    simp only [t1, t2, and_self, if_true] at hr
    simp
    have hfx := together_find t1 x (closes_sub (mem_at hx))
    refine (iter_list0 (closes b a) (by omega) (fun j n => (l, a, b, n, closes a b, closes b a, (k : Int), (j : Int))) n (fun s _ n => rec (l, a, b, s.foldl (stepC l x) n, closes a b, closes b a, (k : Int) + 1)) rfl ?_ ?_).trans ?_
    · intro rec' n
      simp [W_n1 (show k ≤ 9223372036854775806 by omega)]
    · intro rec' j y n hy hj hr'
      simp only [Int.natCast_succ] at hr'
      have hfy := together_find t2 y (closes_sub (mem_at hy))
      simp [hj, getZ_at hx, getZ_at hy, sFindPath_v l _ h, getZ_find hfx, getZ_find hfy, sConflict_v, sClearOf_v, sMax_v, W_n1 (show j ≤ 9223372036854775806 by omega), cnd_if]
      cases hc : conflict (pathAt l x) (pathAt l y) <;> simp [stepC, most, hc, hr']
    · simp [hr]
def isControl (l : List Path) (x : Control) : Bool :=
  !x.stage.isEmpty && together l x.stage && together l x.next && inR x.since 0 1000000 && (if x.next = [] then x.left == 0 else inR x.left 1 (clearBetween l x.stage x.next))
theorem len0 {α : Type} (l : List α) : (((l.length : Nat) : Int) == 0) = l.isEmpty := by
  cases l with
  | nil => rfl
  | cons x l => simp; omega
theorem sIsControl_v (l : List Path) (x : Control) (h : Sm l) (hx : SmControl x) : S_sIsControl l x = some (isControl l x) := by
  obtain ⟨h1, h2⟩ := hx
  unfold S_sIsControl isControl
  simp only [rws_path, rws_i, len_i, len0, sIsTogether_v l _ h h1, sIsTogether_v l _ h h2, sClearBetween_v l _ _ h h1 h2, sl1In_r, bnd_some]
  cases x.stage.isEmpty <;> cases together l x.stage <;> cases together l x.next <;> cases inR x.since 0 1000000 <;> cases hn : x.next <;> simp
theorem iIsControl_v (l : List Path) (x : Control) (h : Sm l) (hx : SmControl x) : S_iIsControl l x = some (isControl l x) := by
  obtain ⟨h1, h2⟩ := hx
  unfold S_iIsControl isControl
  simp only [rws_path, rws_i, len_i, len0, iIsTogether_v l _ h h1, iIsTogether_v l _ h h2, iClearBetween_v l _ _ h h1 h2, iInRange_r, bnd_some]
  cases x.stage.isEmpty <;> cases together l x.stage <;> cases together l x.next <;> cases inR x.since 0 1000000 <;> cases hn : x.next <;> simp
/-- a list of ints that grows one by one -/
theorem map_loop {α β V : Type} (l : List α) (f : α → Int) (hl : l.length ≤ 1099511627776) (st : Nat → List Int → V) (K : List Int → Option β) {F : (V → Option β) → V → Option β} {v : V} (hv : v = st 0 [])
    (h0 : ∀ rec acc, acc.length = l.length → F rec (st l.length acc) = K acc)
    (h1 : ∀ rec k x acc, l[k]? = some x → k < l.length → acc.length = k → F rec (st k acc) = rec (st (k + 1) (acc ++ [f x]))) : iter F NN v = K (l.map f) := by
  refine (iter_listJ l (by omega) st [] (fun k acc => acc.length = k) rfl (fun s _ acc => K (acc ++ s.map f)) hv ?_ ?_).trans (by simp)
  · intro rec acc h
    rw [h0 rec acc h]
    simp
  · intro rec k x acc h hx hk hr
    rw [h1 rec k x acc hx hk h, hr _ (by simp [h])]
    simp
def lightAt (x : Control) (id : Int) : Int := if has x.stage id then (if x.next.isEmpty = false ∧ has x.next id = false then 2 else 1) else 0
def lightsOf (l : List Path) (x : Control) : List Int := if isControl l x then l.map (fun p => lightAt x p.id) else []
theorem len1 {α : Type} (l : List α) : decide (((l.length : Nat) : Int) > 0) = !l.isEmpty := by
  cases l with
  | nil => rfl
  | cons x l => simp
theorem iLightsOf_v (l : List Path) (x : Control) (h : Sm l) (hx : SmControl x) : S_iLightsOf l x = some (lightsOf l x) := by
  have hx' := hx
  obtain ⟨h1, h2⟩ := hx
  have hl := h
  unfold Sm at hl
  unfold S_iLightsOf lightsOf
  simp only [rws_path, rws_i, len_path, eta_Control, iIsControl_v l x h hx', bnd_some]
  cases isControl l x with
  | false => simp
  | true =>
  simp only [Bool.not_true, cnd_ff, if_true]
  refine map_loop l (fun p => lightAt x p.id) (by omega) (fun k acc => ((acc, l, (l.length : Int), (k : Int)), x)) some rfl ?_ ?_
  · intro rec acc ha
    simp
  · intro rec k p acc hp hk ha
    simp [hk, getZ_at hp, slices_Contains_int_int_v _ _ h1, slices_Contains_int_int_v _ _ h2, W_n1 (show k ≤ 9223372036854775806 by omega), ha, show (k + 1) * 8 ≤ 140737488355328 by omega, show k ≤ 1152921504606846975 by omega, len1]
    unfold lightAt
    cases has x.stage p.id with
    | false => simp
    | true =>
      cases hn : x.next with
      | nil => simp
      | cons y r =>
        simp [cnd_if]
        cases has (y :: r) p.id <;> simp
theorem sLightsOf_v (l : List Path) (x : Control) (h : Sm l) (hx : SmControl x) : S_sLightsOf l x = some (lightsOf l x) := by
  have hx' := hx
  obtain ⟨h1, h2⟩ := hx
  have hl := h
  unfold Sm at hl
  unfold S_sLightsOf lightsOf
  simp only [rws_path, rws_i, len_path, eta_Control]
  cases hc : isControl l x with
  | false =>
    refine (iter_list0 l (by omega) (fun k (_ : Unit) => ((l, ([] : List Int), (k : Int)), x)) () (fun _ _ _ => some []) rfl ?_ ?_).trans rfl
    · intro rec _
      simp
    · intro rec k p _ hp hk _
      simp [hk, sIsControl_v l x h hx', hc]
  | true =>
  simp only [if_true]
  refine map_loop l (fun p => lightAt x p.id) (by omega) (fun k acc => ((l, acc, (k : Int)), x)) some rfl ?_ ?_
  · intro rec acc ha
    simp
  · intro rec k p acc hp hk ha
    simp [hk, getZ_at hp, sIsControl_v l x h hx', hc, sl6Has_v _ _ h1, sl6Has_v _ _ h2, W_n1 (show k ≤ 9223372036854775806 by omega), ha, show (k + 1) * 8 ≤ 140737488355328 by omega, show k ≤ 1152921504606846975 by omega, len1]
    unfold lightAt
    cases has x.stage p.id with
    | false => simp
    | true =>
      cases hn : x.next with
      | nil => simp
      | cons y r =>
        simp [cnd_if]
        cases has (y :: r) p.id <;> simp
theorem iall_v (l : List Path) (n : Int) (h : Sm l) : S_iall l n = some (l.map fun _ => n) := by
  unfold Sm at h
  unfold S_iall
  simp only [rws_path, rws_i, len_path]
  refine map_loop l (fun _ => n) (by omega) (fun k acc => (n, acc, (l.length : Int), (k : Int))) some rfl ?_ ?_
  · intro rec acc ha
    simp
  · intro rec k p acc hp hk ha
    simp [hk, W_n1 (show k ≤ 9223372036854775806 by omega), ha, show (k + 1) * 8 ≤ 140737488355328 by omega, show k ≤ 1152921504606846975 by omega]
theorem sl33All_v (t : Town) (n : Int) (h : Sm t.paths) : S_sl33All t n = some (t.paths.map fun _ => n) := by
  unfold Sm at h
  unfold S_sl33All
  simp
  refine map_loop t.paths (fun _ => n) (by omega) (fun k acc => ((n, acc, (k : Int)), t)) some rfl ?_ ?_
  · intro rec acc ha
    simp
  · intro rec k p acc hp hk ha
    simp [hk, W_n1 (show k ≤ 9223372036854775806 by omega), ha, show (k + 1) * 8 ≤ 140737488355328 by omega, show k ≤ 1152921504606846975 by omega]
theorem findIdx_some {α : Type} (p : α → Bool) (l : List α) : (l.findIdx? p).isSome = l.any p := findIdx_some' p l
def lampOk (l : List Path) (p : Lamp) : Bool := !decide (findPath l p.path < 0) && inR p.colour 0 1
def noDup (p q : Lamp) : Bool := !(q.path == p.path && q.colour == p.colour)
def goL (l : List Path) (x : List Lamp) : Nat → List Lamp → Bool
  | _, [] => true
  | k, p :: r => lampOk l p && (x.take k).all (noDup p) && goL l x (k + 1) r
def areLamps (l : List Path) (x : List Lamp) : Bool := goL l x 0 x && arePaths l
theorem take_at {α : Type} {l : List α} {k j : Nat} {x : α} (h : (l.take k)[j]? = some x) : l[j]? = some x := by
  rw [List.getElem?_take] at h
  split at h
  · exact h
  · cases h
theorem sAreLamps_v (l : List Path) (x : List Lamp) (h : Sm l) (hx : Sm x) : S_sAreLamps l x = some (areLamps l x) := by
  unfold S_sAreLamps areLamps
  simp
  have hx' := hx
  unfold Sm at hx'
  refine (iter_list0 x (by omega) (fun k (_ : Unit) => (l, x, (k : Int))) () (fun s k _ => some (goL l x k s && arePaths l)) rfl ?_ ?_).trans rfl
  · intro rec _
    simp [sArePaths_v l h, goL]
  · intro rec k p _ hp hk hr
    simp only [Int.natCast_succ] at hr
    have hk2 : k ≤ 9223372036854775806 := by omega
    simp [hk, getZ_at hp, sFindPath_v l _ h, sl1In_r, goL, lampOk]
    by_cases c1 : findPath l p.path < 0
    · simp [c1]
    simp only [c1, decide_false, cnd_ff, Bool.not_false, Bool.true_and]
    cases c2 : inR p.colour 0 1 with
    | false => simp
    | true =>
    simp only [Bool.not_true, cnd_ff, Bool.true_and]
    have hlen : (x.take k).length = k := by rw [List.length_take]; omega
    refine (all_loop (x.take k) (noDup p) (by omega) (fun j => (l, x, (k : Int), (j : Int))) (some (goL l x (k + 1) (x.drop (k + 1)) && arePaths l)) (some false) rfl ?_ ?_).trans ?_
    · intro rec'
      simp [hlen, W_n1 hk2]
      exact hr ()
    · intro rec' j q hq hj
      have hq' := take_at hq
      have hj' : j < k := by omega
      simp [hj', getZ_at hq', getZ_at hp, W_n1 (show j ≤ 9223372036854775806 by omega), cnd_if]
      by_cases e1 : q.path = p.path <;> by_cases e2 : q.colour = p.colour <;> simp [e1, e2, noDup]
    · generalize (x.take k).all (noDup p) = A
      cases A <;> simp
theorem iAreLamps_v (l : List Path) (x : List Lamp) (h : Sm l) (hx : Sm x) : S_iAreLamps l x = some (areLamps l x) := by
  unfold S_iAreLamps areLamps
  simp [iArePaths_v l h]
  have hx' := hx
  unfold Sm at hx'
  cases hp : arePaths l with
  | false => simp
  | true =>
  simp
  refine (iter_list0 x (by omega) (fun k (_ : Unit) => (l, x, x, (x.length : Int), (k : Int))) () (fun s k _ => some (goL l x k s)) rfl ?_ ?_).trans rfl
  · intro rec _
    simp [goL]
  · intro rec k p _ hp hk hr
    simp only [Int.natCast_succ] at hr
    have hk2 : k ≤ 9223372036854775806 := by omega
    simp [hk, getZ_at hp, iFindPath_v l _ h, goL, lampOk]
    by_cases c1 : findPath l p.path < 0
    · simp [c1]
    simp only [c1, decide_false, cnd_ff, Bool.not_false, Bool.true_and]
    have hlen : (x.take k).length = k := by rw [List.length_take]; omega
    generalize hI : iter (_ : ((List Path × List Lamp × List Lamp × Int × Int × List Lamp × Int × Int) × Lamp → Option Bool) → _ → Option Bool) NN _ = I
    have hI' : I = if (x.take k).all (noDup p) = true then some (goL l x (k + 1) (x.drop (k + 1))) else some false := by
      rw [← hI]
      refine all_loop (x.take k) (noDup p) (by omega) (fun j => ((l, x, x, (x.length : Int), (k : Int), x.take k, ((x.take k).length : Int), (j : Int)), p)) _ _ (by simp) ?_ ?_
      · intro rec'
        simp [hlen, W_n1 hk2]
        exact hr ()
      · intro rec' j q hq hj
        have hj' : j < k := by omega
        simp [hlen, hj', getZ_at hq, W_n1 (show j ≤ 9223372036854775806 by omega), cnd_if]
        by_cases e1 : p.path = q.path <;> by_cases e2 : p.colour = q.colour <;> simp [e1, e2, noDup, show k ≤ x.length by omega]
        all_goals first | done | (intro h1; exact absurd h1.symm e1) | grind
    rw [hI']
    generalize (x.take k).all (noDup p) = A
    by_cases e0 : p.colour = 0
    · simp [e0, inR, show k ≤ x.length by omega]
      cases A <;> simp
    · by_cases e1 : p.colour = 1
      · simp [e1, inR, show k ≤ x.length by omega]
        cases A <;> simp
      · rw [show inR p.colour 0 1 = false by simp [inR]; omega]
        simp [e0, e1, cnd_if]
def badLamp (q : Lamp) : Bool := q.colour == 0 && q.broken
def anyBad (x : List Lamp) : Bool := x.any badLamp
def mode (l : List Path) (x : List Lamp) (p : Bool) : Int := if p = false then 2 else if anyBad x then 1 else if areLamps l x then 0 else 1
theorem sModeFor_v (l : List Path) (x : List Lamp) (p : Bool) (h : Sm l) (hx : Sm x) : S_sModeFor l x p = some (mode l x p) := by
  unfold S_sModeFor mode
  have hx' := hx
  unfold Sm at hx'
  cases p with
  | false => rfl
  | true =>
  simp
  refine (all_loop x (fun q => !badLamp q) (by omega) (fun k => (l, x, (k : Int))) (some (if areLamps l x then 0 else 1)) (some 1) rfl ?_ ?_).trans ?_
  · intro rec
    simp [sAreLamps_v l x h hx]
    cases areLamps l x <;> rfl
  · intro rec k q hq hk
    simp [hk, getZ_at hq, W_n1 (show k ≤ 9223372036854775806 by omega), cnd_if]
    by_cases e1 : q.colour = 0 <;> cases e2 : q.broken <;> simp [e1, e2, badLamp]
  · have hB : anyBad x = !x.all (fun q => !badLamp q) := by rw [List.not_all_eq_any_not]; simp [anyBad]
    generalize x.all (fun q => !badLamp q) = A at hB ⊢
    rw [hB]
    cases A <;> simp
theorem iModeFor_v (l : List Path) (x : List Lamp) (p : Bool) (h : Sm l) (hx : Sm x) : S_iModeFor l x p = some (mode l x p) := by
  unfold S_iModeFor mode
  have hx' := hx
  unfold Sm at hx'
  cases p with
  | false => rfl
  | true =>
  have key : S_slices_ContainsFunc_loop_example_g03006_impl_Lamp_loop_example_g03006_impl_Lamp x = some (anyBad x) := by
    unfold S_slices_ContainsFunc_loop_example_g03006_impl_Lamp_loop_example_g03006_impl_Lamp S_slices_IndexFunc_loop_example_g03006_impl_Lamp_loop_example_g03006_impl_Lamp S_iModeFor_1
    simp
    generalize hI : iter (_ : (List Lamp × Unit × Int × Int → Option Int) → _ → Option Int) NN _ = I
    have hI' : I = match x.findIdx? badLamp with | some i => some (i : Int) | none => some (-1) := by
      rw [← hI]
      refine find_loop x badLamp (by omega) (fun k => (x, (), (x.length : Int), (k : Int))) (fun k => some (k : Int)) (some (-1)) rfl ?_ ?_
      · intro rec; simp
      · intro rec k q hq hk
        simp [hk, getZ_at hq, W_n1 (show k ≤ 9223372036854775806 by omega), cnd_if]
        by_cases e1 : q.colour = 0 <;> cases e2 : q.broken <;> simp [e1, e2, badLamp]
    rw [hI']
    have hB : anyBad x = (x.findIdx? badLamp).isSome := by rw [findIdx_some]; rfl
    rw [hB]
    cases x.findIdx? badLamp <;> simp
  simp [iAreLamps_v l x h hx, key]
  cases areLamps l x <;> cases anyBad x <;> rfl
def lightsNow (t : Town) : List Int := if mode t.paths t.lamps t.power = 0 then lightsOf t.paths t.control else t.paths.map fun _ => 0
theorem sLightsNow_v (t : Town) (h : SmTown t) : S_sLightsNow t = some (lightsNow t) := by
  obtain ⟨h0, h1, h2, h3, h4⟩ := h
  have e1 : S_sModeOf t = some (mode t.paths t.lamps t.power) := by unfold S_sModeOf; simp [sModeFor_v _ _ _ h0 h3]
  unfold S_sLightsNow lightsNow
  simp only [rws_path, rws_want, rws_lamp, rws_i, rws_note_ss, eta_Control, eta_Town, e1, bnd_some, bnd_id', sLightsOf_v _ _ h0 h1, sl33All_v t 0 h0, cnd_if, beq_iff_eq]
  split <;> rfl
theorem iLightsNow_v (t : Town) (h : SmTown t) : S_iLightsNow t = some (lightsNow t) := by
  obtain ⟨h0, h1, h2, h3, h4⟩ := h
  have e1 : S_iModeOf t = some (mode t.paths t.lamps t.power) := by unfold S_iModeOf; simp [iModeFor_v _ _ _ h0 h3]
  unfold S_iLightsNow lightsNow
  simp only [rws_path, rws_want, rws_lamp, rws_i, rws_note_ss, eta_Control, eta_Town, e1, bnd_some, bnd_id', iLightsOf_v _ _ h0 h1, iall_v _ 0 h0, cnd_if, bne_iff_ne]
  by_cases c : mode t.paths t.lamps t.power = 0 <;> simp [c]
def clear2 (x q : Path × Int) : Bool := !(x.2 != 0 && q.2 != 0 && conflict x.1 q.1)
def goS (z : List (Path × Int)) : Nat → List (Path × Int) → Bool
  | _, [] => true
  | k, x :: r => inR x.2 0 2 && (z.take k).all (clear2 x) && goS z (k + 1) r
def isSafe (l : List Path) (v : List Int) : Bool := arePaths l && decide (v.length = l.length) && goS (l.zip v) 0 (l.zip v)
theorem zip_at {l : List Path} {v : List Int} {k : Nat} {x : Path × Int} (h : (l.zip v)[k]? = some x) : l[k]? = some x.1 ∧ v[k]? = some x.2 := by
  rw [List.getElem?_zip_eq_some] at h
  exact h
end Go.Sh
