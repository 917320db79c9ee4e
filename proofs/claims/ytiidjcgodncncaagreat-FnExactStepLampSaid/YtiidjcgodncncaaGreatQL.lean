/- Plain facts: what the functions compute. -/
import Derived.Test.YtiidjcgodncncaaGreatHpL
set_option linter.all false
namespace Go.Sh
open Go.Fx
theorem sl1In_v (x a b : Int) : S_sl1In x a b = some (decide (a ≤ x) && decide (x ≤ b)) := by
  unfold S_sl1In
  by_cases h : a ≤ x <;> simp [h, cnd_if]
theorem iInRange_v (x a b : Int) : S_iInRange x a b = some (decide (a ≤ x) && decide (x ≤ b)) := by
  unfold S_iInRange
  by_cases h : a ≤ x <;> simp [h, cnd_if]
theorem W_n1 {n : Nat} (h : n ≤ 9223372036854775806) : W ((n : Int) + 1) = (n : Int) + 1 := W_id (by omega) (by omega)
/-! paths -/
def inR (n a b : Int) : Bool := decide (a ≤ n) && decide (n ≤ b)
def isPath (p : Path) : Bool := inR p.id 1 20 && inR p.kind 1 3 && inR p.src 0 3 && inR p.dst 0 3 && ((p.src == p.dst) == (p.kind == 2))
theorem sIsPath_v (p : Path) : S_sIsPath p = some (isPath p) := by
  unfold S_sIsPath isPath inR
  simp only [sl1In_v, bnd_some]
  cases (decide (1 ≤ p.id) && decide (p.id ≤ 20)) <;> cases (decide (1 ≤ p.kind) && decide (p.kind ≤ 3)) <;> cases (decide (0 ≤ p.src) && decide (p.src ≤ 3)) <;> cases (decide (0 ≤ p.dst) && decide (p.dst ≤ 3)) <;> simp
theorem iIsPath_v (p : Path) : S_iIsPath p = some (isPath p) := by
  unfold S_iIsPath isPath inR
  simp only [iInRange_v, bnd_some]
  cases (decide (1 ≤ p.id) && decide (p.id ≤ 20)) <;> cases (decide (1 ≤ p.kind) && decide (p.kind ≤ 3)) <;> cases (decide (0 ≤ p.src) && decide (p.src ≤ 3)) <;> cases (decide (0 ≤ p.dst) && decide (p.dst ≤ 3)) <;> simp
/-- valid paths, their ids rising -/
def goP : Option Int → List Path → Bool
  | _, [] => true
  | none, p :: r => isPath p && goP (some p.id) r
  | some i, p :: r => isPath p && decide (i < p.id) && goP (some p.id) r
def arePaths (l : List Path) : Bool := decide (l.length ≤ 12) && goP none l
/-- the id ahead of place k -/
def prevId (l : List Path) (k : Nat) : Option Int := if k = 0 then none else (l[k - 1]?).map (·.id)
theorem prevId_succ {l : List Path} {k : Nat} {x : Path} (h : l[k]? = some x) : prevId l (k + 1) = some x.id := by
  unfold prevId
  simp [h]
theorem sArePaths_v (l : List Path) (h : Sm l) : S_sArePaths l = some (arePaths l) := by
  unfold Sm at h
  unfold S_sArePaths
  simp
  refine (iter_list0 l (by omega) (fun k (_ : Unit) => (l, (k : Int))) () (fun s k _ => some (goP (prevId l k) s && decide (l.length ≤ 12))) rfl ?_ ?_).trans ?_
  · intro rec _
    simp [goP]
    omega
  · intro rec k x _ hx hk hr
    have hr' := hr ()
    simp [hk, getZ_at hx, sIsPath_v, W_n1 (show k ≤ 9223372036854775806 by omega)] at hr' ⊢
    cases hp : isPath x with
    | false => cases hq : prevId l k <;> simp [goP, hp]
    | true =>
      simp
      by_cases h0 : k = 0
      · subst h0
        simp [prevId, hx] at hr'
        simp [hr', prevId, goP, hp, hx]
      · have hz : l[k - 1]? = some l[k - 1] := List.getElem?_eq_getElem (by omega)
        have hk1 : W ((k : Int) - 1) = ((k - 1 : Nat) : Int) := by rw [W_id (by omega) (by omega)]; omega
        simp [show 0 < k by omega, hk1, getZ_at hz, hr', prevId_succ hx]
        rw [show prevId l k = some (l[k - 1]).id by unfold prevId; simp [h0, hz]]
        simp [goP, hp, cnd_if]
        by_cases h1 : x.id ≤ (l[k - 1]).id
        · simp [h1, show ¬ ((l[k - 1]).id < x.id) by omega]
        · simp [h1, show (l[k - 1]).id < x.id by omega]
  · simp [prevId, arePaths, Bool.and_comm]
theorem iArePaths_v (l : List Path) (h : Sm l) : S_iArePaths l = some (arePaths l) := by
  unfold Sm at h
  unfold S_iArePaths
  simp
  by_cases h12 : (12 : Int) < (l.length : Int)
  · simp [h12, arePaths, show ¬ (l.length ≤ 12) by omega]
  simp [h12]
  refine (iter_list0 l (by omega) (fun k (_ : Unit) => (l, l, (l.length : Int), (k : Int))) () (fun s k _ => some (goP (prevId l k) s)) rfl ?_ ?_).trans ?_
  · intro rec _
    simp [goP]
  · intro rec k x _ hx hk hr
    have hr' := hr ()
    simp [hk, getZ_at hx, iIsPath_v, W_n1 (show k ≤ 9223372036854775806 by omega)] at hr' ⊢
    cases hp : isPath x with
    | false => cases hq : prevId l k <;> simp [goP, hp]
    | true =>
      simp
      by_cases h0 : k = 0
      · subst h0
        simp [prevId, hx] at hr'
        simp [hr', prevId, goP, hp, hx]
      · have hz : l[k - 1]? = some l[k - 1] := List.getElem?_eq_getElem (by omega)
        have hk1 : W ((k : Int) - 1) = ((k - 1 : Nat) : Int) := by rw [W_id (by omega) (by omega)]; omega
        simp [show 0 < k by omega, hk1, getZ_at hz, hr', prevId_succ hx]
        rw [show prevId l k = some (l[k - 1]).id by unfold prevId; simp [h0, hz]]
        simp [goP, hp, cnd_if]
        by_cases h1 : x.id ≤ (l[k - 1]).id
        · simp [h1, show ¬ ((l[k - 1]).id < x.id) by omega]
        · simp [h1, show (l[k - 1]).id < x.id by omega]
  · simp [prevId, arePaths, show l.length ≤ 12 by omega]
/-! waits -/
def lwG : List Want → Nat → Int → Option Int
  | [], _, n => some n
  | x :: xs, k, n => if k = 0 ∨ n < x.wait then lwG xs (k + 1) x.wait else lwG xs (k + 1) n
def longestWait : List Want → Int
  | [] => 0
  | x :: xs => xs.foldl (fun m y => if m < y.wait then y.wait else m) x.wait
theorem lwG_eq : ∀ (l : List Want) (k : Nat) (n : Int), 0 < k → lwG l k n = some (l.foldl (fun m y => if m < y.wait then y.wait else m) n)
  | [], _, _, _ => rfl
  | x :: xs, k, n, h => by
    simp only [lwG, List.foldl_cons]
    split <;> rw [lwG_eq xs (k + 1) _ (by omega)] <;> congr 2 <;> split <;> simp_all <;> omega
/-! the longest clearing -/
def clearOf (p : Path) : Int := if isPath p then (if p.kind = 1 then 2 else if p.kind = 2 then 5 else 3) else 0
theorem kind_of {p : Path} (h : isPath p = true) : p.kind = 1 ∨ p.kind = 2 ∨ p.kind = 3 := by
  simp [isPath, inR] at h
  omega
theorem sClearOf_v (p : Path) : S_sClearOf p = some (clearOf p) := by
  unfold S_sClearOf clearOf
  rw [sIsPath_v, bnd_some]
  cases h : isPath p with
  | false => rfl
  | true => rcases kind_of h with e | e | e <;> rw [e] <;> rfl
theorem iClearOf_v (p : Path) : S_iClearOf p = some (clearOf p) := by
  unfold S_iClearOf clearOf
  rw [iIsPath_v, bnd_some]
  cases h : isPath p with
  | false => rfl
  | true => rcases kind_of h with e | e | e <;> rw [e] <;> rfl
def longestClear (l : List Path) : Int := if arePaths l then l.foldl (fun n p => if n < clearOf p then clearOf p else n) 0 else 0
theorem sMax_v (a b : Int) : S_sMax a b = some (if a < b then b else a) := by
  unfold S_sMax
  rw [cnd_if]
  split <;> simp_all <;> omega
def waitBound (l : List Path) : Int := W (W ((l.length : Int) + 1) * W (W (W (60 + longestClear l) + 20) + 1))
theorem range_at {n k x : Nat} (h : (List.range n)[k]? = some x) : x = k := by
  rw [List.getElem?_range (by
    have := (List.getElem?_eq_some_iff.1 h).1
    simpa using this)] at h
  exact (Option.some.inj h).symm
theorem tmod_pos {a m : Int} (h : 0 ≤ a) : Int.tmod a m = a % m := Int.tmod_eq_emod_of_nonneg h
theorem sl1In_t {x a b : Int} (h : a ≤ x) (h' : x ≤ b) : S_sl1In x a b = some true := by rw [sl1In_v]; simp [h, h']
theorem iInRange_t {x a b : Int} (h : a ≤ x) (h' : x ≤ b) : S_iInRange x a b = some true := by rw [iInRange_v]; simp [h, h']
theorem tmod_cases (n : Int) {m : Int} (h : 0 < m) : (0 ≤ Int.tmod n m ∧ Int.tmod n m < m ∧ Int.tmod n m = n % m) ∨ (Int.tmod n m < 0 ∧ -m < Int.tmod n m ∧ Int.tmod n m + m = n % m) := by
  have h1 := Int.tmod_lt_of_pos n h
  have h2 := Int.lt_tmod_of_pos n h
  have h3 : n = m * Int.tdiv n m + Int.tmod n m := by have := Int.mul_tdiv_add_tmod n m; omega
  have h4 : n % m = Int.tmod n m % m := by
    conv => lhs; rw [h3]
    rw [Int.add_comm, Int.add_mul_emod_self_left]
  rcases (by omega : Int.tmod n m < 0 ∨ 0 ≤ Int.tmod n m) with hn | hp
  · right
    refine ⟨hn, h2, ?_⟩
    rw [h4, ← Int.add_emod_right, Int.emod_eq_of_lt (by omega) (by omega)]
  · left
    exact ⟨hp, h1, by rw [h4, Int.emod_eq_of_lt hp h1]⟩
theorem sMod_v (n m : Int) (h : 1 ≤ m) (h' : m ≤ 1000000000000) : S_sMod n m = some (n % m) := by
  unfold S_sMod
  rw [sl1In_t h h', bnd_some]
  rw [show (!true) = false from rfl, cnd_ff, ifA_pos (by omega), ifA_pos (by omega)]
  rcases tmod_cases n (show 0 < m by omega) with ⟨a, b, c⟩ | ⟨a, b, c⟩
  · rw [W_id (by omega) (by omega), tmod_pos (by omega), c, Int.add_emod_right, Int.emod_emod_of_dvd _ (Int.dvd_refl m)]
  · rw [W_id (by omega) (by omega), tmod_pos (by omega), c, Int.emod_emod_of_dvd _ (Int.dvd_refl m)]
theorem iMod_v (n m : Int) (h : 1 ≤ m) (h' : m ≤ 1000000000000) : S_iMod n m = some (n % m) := by
  unfold S_iMod
  rw [iInRange_t h h', bnd_some]
  rw [show (!true) = false from rfl, cnd_ff, ifA_pos (by omega), cnd_if]
  rcases tmod_cases n (show 0 < m by omega) with ⟨a, b, c⟩ | ⟨a, b, c⟩
  · rw [if_neg (by simp; omega), c]
  · rw [if_pos (by simp; omega), W_id (by omega) (by omega), c]
def mix (a v : Int) : Int := Int.tmod (W (W (W (a * 1000003) + v % 2147483647) + 13)) 2147483647
def hash (l : List Int) : Int := l.foldl mix 11
theorem ifold_v (a v : Int) : S_ifold a v = some (mix a v) := by
  unfold S_ifold mix
  rw [iMod_v _ _ (by decide) (by decide)]
  rfl
theorem sHash_v (l : List Int) (h : l.length ≤ 2097152) : S_sHash l = some (hash l) := by
  unfold S_sHash hash
  simp
  refine (iter_list0 l (by omega) (fun k n => (l, n, (k : Int))) 11 (fun s _ n => some (s.foldl mix n)) rfl ?_ ?_).trans rfl
  · intro rec n
    simp
  · intro rec k x n hx hk hr
    simp only [Int.natCast_succ] at hr
    simp [hk, getZ_at hx, sMod_v _ 2147483647, W_n1 (show k ≤ 9223372036854775806 by omega)]
    exact hr _
theorem iHash_v (l : List Int) (h : l.length ≤ 2097152) : S_iHash l = some (hash l) := by
  unfold S_iHash hash
  simp
  refine (iter_list0 l (by omega) (fun k n => (n, l, (l.length : Int), (k : Int))) 11 (fun s _ n => some (s.foldl mix n)) rfl ?_ ?_).trans rfl
  · intro rec n
    simp
  · intro rec k x n hx hk hr
    simp only [Int.natCast_succ] at hr
    simp [hk, getZ_at hx, ifold_v, W_n1 (show k ≤ 9223372036854775806 by omega)]
    exact hr _
def sealOf (b s : Int) (l : List Int) : Int := hash (b :: s :: l)
theorem sSealOf_v (b s : Int) (l : List Int) (h : Sm l) : S_sSealOf b s l = some (sealOf b s l) := by
  unfold Sm at h
  unfold S_sSealOf sealOf
  simp
  rw [ifA_pos (by omega), sHash_v _ (by simp; omega)]
  rfl
theorem iSealOf_v (b s : Int) (l : List Int) (h : Sm l) : S_iSealOf b s l = some (sealOf b s l) := by
  unfold Sm at h
  unfold S_iSealOf sealOf
  simp
  rw [ifA_pos (by omega), iHash_v _ (by simp; omega)]
  rfl
theorem sl1In_r (x a b : Int) : S_sl1In x a b = some (inR x a b) := sl1In_v x a b
theorem iInRange_r (x a b : Int) : S_iInRange x a b = some (inR x a b) := iInRange_v x a b
theorem all_loop {α V β : Type} (l : List α) (p : α → Bool) (hl : l.length ≤ 1099511627776) (st : Nat → V) (K no : Option β) {F : (V → Option β) → V → Option β} {v : V} (hv : v = st 0)
    (h0 : ∀ rec, F rec (st l.length) = K)
    (h1 : ∀ rec k x, l[k]? = some x → k < l.length → F rec (st k) = if p x = true then rec (st (k + 1)) else no) : iter F NN v = if l.all p = true then K else no := by
  refine (iter_list0 l (by omega) (fun k (_ : Unit) => st k) () (fun s _ _ => if s.all p = true then K else no) hv ?_ ?_).trans rfl
  · intro rec _
    rw [h0]; simp
  · intro rec k x _ hx hk hr
    rw [h1 rec k x hx hk, List.all_cons]
    cases p x with
    | true => simpa using hr ()
    | false => simp
theorem getZ0 {α β : Type} {l : List α} {x : α} (h : l[0]? = some x) (K : α → Option β) : getZ l 0 K = K x := getZ_at h K
def noteOk (b : Int) (n : Nat) (x : Note) : Bool := inR x.second 0 1000000 && decide (x.lights.length ≤ 12) && decide (x.lights.length = n) && decide (x.sig = sealOf b x.second x.lights) && x.lights.all (fun v => inR v 0 2)
def later (pv : Option Int) (s : Int) : Bool := match pv with | none => true | some p => decide (p < s)
def goR (n : Nat) : Int → Option Int → List Note → Bool
  | _, _, [] => true
  | b, pv, x :: r => noteOk b n x && later pv x.second && goR n x.sig (some x.second) r
def firstLen (l : List Note) : Nat := match l with | [] => 0 | x :: _ => x.lights.length
def isRecord (l : List Note) : Bool := decide (l.length ≤ 60) && goR (firstLen l) 0 none l
def prevSec (l : List Note) (k : Nat) : Option Int := if k = 0 then none else (l[k - 1]?).map (·.second)
theorem prevSec_succ {l : List Note} {k : Nat} {x : Note} (h : l[k]? = some x) : prevSec l (k + 1) = some x.second := by
  unfold prevSec
  simp [h]
theorem firstLen_at {l : List Note} {x : Note} (h : l[0]? = some x) : firstLen l = x.lights.length := by
  cases l with
  | nil => simp at h
  | cons y t => simp at h; rw [firstLen, h]
theorem mem_at {α : Type} {l : List α} {k : Nat} {x : α} (h : l[k]? = some x) : x ∈ l := List.mem_of_getElem? h
theorem sIsRecord_v (l : List Note) (h : Sm l ∧ ∀ y ∈ l, SmNote y) : S_sIsRecord l = some (isRecord l) := by
  obtain ⟨h, hs⟩ := h
  unfold Sm at h
  unfold S_sIsRecord
  simp
  refine (iter_list0 l (by omega) (fun k b => (l, b, (k : Int))) 0 (fun s k b => some (decide (l.length ≤ 60) && goR (firstLen l) b (prevSec l k) s)) rfl ?_ ?_).trans rfl
  · intro rec b
    simp [goR]
    omega
  · intro rec k x b hx hk hr
    simp only [Int.natCast_succ, prevSec_succ hx] at hr
    have hsx : Sm x.lights := hs x (mem_at hx)
    have hz : l[0]? = some l[0] := List.getElem?_eq_getElem (by omega)
    by_cases h60 : (l.length : Int) ≤ 60
    · have h60' : l.length ≤ 60 := by omega
      simp [hk, h60, h60', getZ_at hx, sSealOf_v b x.second x.lights hsx, sl1In_r, getZ0 hz, goR, noteOk, later, firstLen_at hz]
      cases inR x.second 0 1000000 with
      | false => simp
      | true =>
      simp
      generalize hI : iter (_ : (List Note × Int × Int × Int → Option Bool) → _ → Option Bool) NN (l, sealOf b x.second x.lights, (k : Int), (0 : Int)) = I
      have hI' : I = if x.lights.all (fun v => inR v 0 2) = true then some (goR l[0].lights.length (sealOf b x.second x.lights) (some x.second) (l.drop (k + 1))) else some false := by
        rw [← hI]
        refine all_loop x.lights (fun v => inR v 0 2) (by unfold Sm at hsx; omega) (fun j => (l, sealOf b x.second x.lights, (k : Int), (j : Int))) _ _ rfl ?_ ?_
        · intro rec'
          simp [getZ_at hx, W_n1 (show k ≤ 9223372036854775806 by omega), hr, h60', firstLen_at hz]
        · intro rec' j v hv hj
          have hj2 : j ≤ 9223372036854775806 := by unfold Sm at hsx; omega
          simp [getZ_at hx, getZ_at hv, hj, sl1In_r, W_n1 hj2]
          cases inR v 0 2 <;> simp
      rw [hI']
      clear hI' hI
      generalize x.lights.all (fun v => inR v 0 2) = A
      by_cases c1 : (12 : Int) < (x.lights.length : Int)
      · simp [c1, show ¬ x.lights.length ≤ 12 by omega]
      simp only [c1, decide_false, cnd_ff, show x.lights.length ≤ 12 by omega, decide_true, Bool.true_and]
      by_cases c2 : x.lights.length = l[0].lights.length
      · simp only [c2, bne_self_eq_false, cnd_ff, decide_true, Bool.true_and]
        by_cases c3 : x.sig = sealOf b x.second x.lights
        · simp only [← c3, bne_self_eq_false, cnd_ff, decide_true, Bool.true_and]
          by_cases h0 : k = 0
          · subst h0
            simp [prevSec]
            cases A <;> simp
          · have hz1 : l[k - 1]? = some l[k - 1] := List.getElem?_eq_getElem (by omega)
            have hk1 : W ((k : Int) - 1) = ((k - 1 : Nat) : Int) := by rw [W_id (by omega) (by omega)]; omega
            simp [show 0 < k by omega, hk1, getZ_at hz1]
            rw [show prevSec l k = some (l[k - 1]).second by unfold prevSec; simp [h0, hz1]]
            by_cases c4 : x.second ≤ l[k - 1].second
            · simp [c4, show ¬ l[k - 1].second < x.second by omega]
            · simp [c4, show l[k - 1].second < x.second by omega]
              cases A <;> simp
        · rw [show (x.sig != sealOf b x.second x.lights) = true by simpa using c3, cnd_tt]
          simp [c3]
      · rw [show ((x.lights.length : Int) != (l[0].lights.length : Int)) = true by simp; omega, cnd_tt]
        simp [c2]
    · have h60' : ¬ l.length ≤ 60 := by omega
      simp [hk, h60, h60']
theorem iIsRecord_v (l : List Note) (h : Sm l ∧ ∀ y ∈ l, SmNote y) : S_iIsRecord l = some (isRecord l) := by
  obtain ⟨h, hs⟩ := h
  unfold Sm at h
  unfold S_iIsRecord isRecord
  by_cases h60 : (60 : Int) < (l.length : Int)
  · have h60' : ¬ l.length ≤ 60 := by omega
    simp [h60, h60']
  have h60' : l.length ≤ 60 := by omega
  simp [h60, h60']
  refine (iter_list0 l (by omega) (fun k b => (l, b, l, (l.length : Int), (k : Int))) 0 (fun s k b => some (goR (firstLen l) b (prevSec l k) s)) rfl ?_ ?_).trans rfl
  · intro rec b
    simp [goR]
  · intro rec k x b hx hk hr
    simp only [Int.natCast_succ, prevSec_succ hx] at hr
    have hsx : Sm x.lights := hs x (mem_at hx)
    have hz : l[0]? = some l[0] := List.getElem?_eq_getElem (by omega)
    simp [hk, getZ_at hx, iSealOf_v b x.second x.lights hsx, iInRange_r, getZ0 hz, goR, noteOk, later, firstLen_at hz]
    cases inR x.second 0 1000000 with
    | false => simp
    | true =>
    simp
    generalize hI : iter (_ : ((List Note × List Note × Int × Int × List Int × Int × Int) × Note → Option Bool) → _ → Option Bool) NN ((l, l, (l.length : Int), (k : Int), x.lights, (x.lights.length : Int), (0 : Int)), x) = I
    have hI' : I = if x.lights.all (fun v => inR v 0 2) = true then some (goR l[0].lights.length x.sig (some x.second) (l.drop (k + 1))) else some false := by
      rw [← hI]
      refine all_loop x.lights (fun v => inR v 0 2) (by unfold Sm at hsx; omega) (fun j => ((l, l, (l.length : Int), (k : Int), x.lights, (x.lights.length : Int), (j : Int)), x)) _ _ rfl ?_ ?_
      · intro rec'
        simp [W_n1 (show k ≤ 9223372036854775806 by omega), hr, firstLen_at hz]
      · intro rec' j v hv hj
        have hj2 : j ≤ 9223372036854775806 := by unfold Sm at hsx; omega
        simp [getZ_at hv, hj, iInRange_r, W_n1 hj2]
        cases inR v 0 2 <;> simp
    rw [hI']
    clear hI' hI
    generalize x.lights.all (fun v => inR v 0 2) = A
    generalize hB : cnd (decide ((12 : Int) < (x.lights.length : Int))) (some false) _ = B
    have hB' : B = some ((decide (x.lights.length ≤ 12) && decide (x.lights.length = l[0].lights.length) && decide (x.sig = sealOf b x.second x.lights) && A) && goR l[0].lights.length x.sig (some x.second) (l.drop (k + 1))) := by
      rw [← hB]
      by_cases c1 : (12 : Int) < (x.lights.length : Int)
      · simp [c1, show ¬ x.lights.length ≤ 12 by omega]
      simp only [c1, decide_false, cnd_ff, show x.lights.length ≤ 12 by omega, decide_true, Bool.true_and]
      by_cases c2 : x.lights.length = l[0].lights.length
      · simp only [c2, bne_self_eq_false, cnd_ff, decide_true, Bool.true_and]
        by_cases c3 : x.sig = sealOf b x.second x.lights
        · simp only [← c3, bne_self_eq_false, cnd_ff, decide_true, Bool.true_and]
          cases A <;> simp
        · rw [show (x.sig != sealOf b x.second x.lights) = true by simpa using c3, cnd_tt]
          simp [c3]
      · rw [show ((x.lights.length : Int) != (l[0].lights.length : Int)) = true by simp; omega, cnd_tt]
        simp [c2]
    rw [hB']
    by_cases h0 : k = 0
    · subst h0
      simp [prevSec]
    · have hz1 : l[k - 1]? = some l[k - 1] := List.getElem?_eq_getElem (by omega)
      have hk1 : W ((k : Int) - 1) = ((k - 1 : Nat) : Int) := by rw [W_id (by omega) (by omega)]; omega
      simp [show 0 < k by omega, hk1, getZ_at hz1]
      rw [show prevSec l k = some (l[k - 1]).second by unfold prevSec; simp [h0, hz1]]
      by_cases c4 : x.second ≤ l[k - 1].second
      · simp [c4, show ¬ l[k - 1].second < x.second by omega]
      · simp [c4, show l[k - 1].second < x.second by omega]
theorem goR_len {n : Nat} : ∀ {l : List Note} {b : Int} {pv : Option Int}, goR n b pv l = true → ∀ x ∈ l, x.lights.length = n ∧ 0 ≤ x.second ∧ x.second ≤ 1000000 ∧ ∀ v ∈ x.lights, 0 ≤ v
  | [], _, _, _ => fun x hx => by cases hx
  | y :: l, b, pv, h => fun x hx => by
    simp [goR, noteOk, inR] at h
    rcases List.mem_cons.1 hx with rfl | hx
    · exact ⟨h.1.1.1.1.2, by omega, by omega, fun v hv => (h.1.1.2 v hv).1⟩
    · exact goR_len h.2 x hx
theorem isRecord_len {l : List Note} (h : isRecord l = true) : ∀ x ∈ l, x.lights.length = firstLen l ∧ 0 ≤ x.second ∧ x.second ≤ 1000000 ∧ ∀ v ∈ x.lights, 0 ≤ v := by
  simp [isRecord] at h
  exact goR_len h.2
def upto (u : Int) : List Note → Int
  | [] => u
  | y :: _ => if y.second < u then y.second else u
def pos (n : Int) : Int := if 0 < n then n else 0
def goShare (i : Nat) (u : Int) : List Note → Int → Int
  | [], acc => acc
  | x :: r, acc => goShare i u r (if x.lights[i]? = some 1 then W (acc + pos (W (upto u r - x.second))) else acc)
def openShare (l : List Note) (i u : Int) : Int :=
  if isRecord l = false ∨ 1000000 < u then 0 else
  match l with
  | [] => 0
  | x :: _ => if u ≤ x.second ∨ i < 0 ∨ (x.lights.length : Int) ≤ i then 0 else W (Int.tdiv (W (100 * goShare i.toNat u l 0)) (W (u - x.second)))
theorem sMin_v (a b : Int) : S_sMin a b = some (if b < a then b else a) := by
  unfold S_sMin
  rw [cnd_if]
  simp only [decide_eq_true_eq]
  split <;> rfl
theorem sMax0 (a : Int) : S_sMax 0 a = some (pos a) := by rw [sMax_v]; rfl
theorem drop_next {α : Type} {l : List α} {k : Nat} {y : α} (h : l[k]? = some y) : l.drop k = y :: l.drop (k + 1) := by
  obtain ⟨h1, h2⟩ := List.getElem?_eq_some_iff.1 h
  rw [List.drop_eq_getElem_cons h1, h2]
def lightOf (e : Note) (i : Int) : Int := if 0 ≤ i then (match e.lights[i.toNat]? with | some v => v | none => -1) else -1
@[simp] theorem bnd_id {α : Type} (x : Option α) : bnd x (fun r => some r) = x := by cases x <;> rfl
/-- a list that grows one by one -/
theorem mapG_loop {α γ β V : Type} (l : List α) (f : α → γ) (hl : l.length ≤ 1099511627776) (st : Nat → List γ → V) (K : List γ → Option β) {F : (V → Option β) → V → Option β} {v : V} (hv : v = st 0 [])
    (h0 : ∀ rec acc, acc.length = l.length → F rec (st l.length acc) = K acc)
    (h1 : ∀ rec k x acc, l[k]? = some x → k < l.length → acc.length = k → F rec (st k acc) = rec (st (k + 1) (acc ++ [f x]))) : iter F NN v = K (l.map f) := by
  refine (iter_listJ l (by omega) st [] (fun k acc => acc.length = k) rfl (fun s _ acc => K (acc ++ s.map f)) hv ?_ ?_).trans (by simp)
  · intro rec acc h
    rw [h0 rec acc h]
    simp
  · intro rec k x acc h hx hk hr
    rw [h1 rec k x acc hx hk h, hr _ (by simp [h])]
    simp
/-- a list that grows, if there is anything to be put on it -/
theorem filterMap_loop {α γ β V : Type} (l : List α) (f : α → Option γ) (hl : l.length ≤ 1099511627776) (st : Nat → List γ → V) (K : List γ → Option β) {F : (V → Option β) → V → Option β} {v : V} (hv : v = st 0 [])
    (h0 : ∀ rec acc, acc.length ≤ l.length → F rec (st l.length acc) = K acc)
    (h1 : ∀ rec k x acc, l[k]? = some x → k < l.length → acc.length ≤ k → F rec (st k acc) = rec (st (k + 1) (match f x with | some y => acc ++ [y] | none => acc))) : iter F NN v = K (l.filterMap f) := by
  refine (iter_listJ l (by omega) st [] (fun k acc => acc.length ≤ k) (Nat.le_refl _) (fun s _ acc => K (acc ++ s.filterMap f)) hv ?_ ?_).trans (by simp)
  · intro rec acc h
    rw [h0 rec acc h]
    simp
  · intro rec k x acc h hx hk hr
    rw [h1 rec k x acc hx hk h]
    cases hf : f x with
    | none => rw [hr _ (by simp; omega)]; simp [hf]
    | some y => rw [hr _ (by simp; omega)]; simp [hf]
theorem ifA_t {β : Type} (x : Option β) : ifA (true = true) x = x := rfl
def waitsBounded (t : Town) : Bool := t.wants.all fun x => decide (x.wait ≤ waitBound t.paths)
theorem eqs_loop {α V β : Type} [DecidableEq α] (a b : List α) (hl : a.length = b.length) (h : a.length ≤ 1099511627776) (st : Nat → V) (K no : Option β) {F : (V → Option β) → V → Option β} {v : V} (hv : v = st 0)
    (h0 : ∀ rec, F rec (st a.length) = K) (h1 : ∀ rec k x y, a[k]? = some x → b[k]? = some y → k < a.length → F rec (st k) = if x = y then rec (st (k + 1)) else no) :
    iter F NN v = if a = b then K else no := by
  refine (iter_list0 a (by omega) (fun k (_ : Unit) => st k) () (fun l k _ => if l = b.drop k then K else no) hv ?_ ?_).trans (by simp)
  · intro rec _
    rw [h0, hl, List.drop_length]
    simp
  · intro rec k x _ hx hk hr
    have hkb : k < b.length := by omega
    have hy : b[k]? = some b[k] := List.getElem?_eq_getElem hkb
    rw [h1 rec k x _ hx hy hk, hr (), List.drop_eq_getElem_cons hkb]
    by_cases e : x = b[k]
    · rw [if_pos e]
      simp only [List.cons.injEq, e, true_and]
    · rw [if_neg e, if_neg fun h => e (List.cons.inj h).1]
theorem eqB_path (p q : Path) : eqB [I p.id, I p.kind, I p.src, I p.dst] [I q.id, I q.kind, I q.src, I q.dst] = decide (p = q) := by
  cases p; cases q; simp [eqB, eqV]; grind
theorem eqB_want (p q : Want) : eqB [I p.path, I p.wait] [I q.path, I q.wait] = decide (p = q) := by
  cases p; cases q; simp [eqB, eqV]; grind
theorem eqB_lamp (p q : Lamp) : eqB [I p.path, I p.colour, Bl p.broken] [I q.path, I q.colour, Bl q.broken] = decide (p = q) := by
  cases p; cases q; simp [eqB, eqV]; grind
theorem eqB_prio (p q : Prio) : eqB [I p.path, I p.left] [I q.path, I q.left] = decide (p = q) := by
  cases p; cases q; simp [eqB, eqV]; grind
theorem len_bne {α : Type} {a b : List α} (h : a.length = b.length) : (((a.length : Nat) : Int) != ((b.length : Nat) : Int)) = false := by simp [h]
theorem len_bne' {α : Type} {a b : List α} (h : ¬ a.length = b.length) : (((a.length : Nat) : Int) != ((b.length : Nat) : Int)) = true := by simp; omega
theorem ne_of_len {α : Type} {a b : List α} (h : ¬ a.length = b.length) : ¬ a = b := fun e => h (by rw [e])
theorem sEqualInts_v (a b : List Int) (h : Sm a) : S_sEqualInts a b = some (decide (a = b)) := by
  unfold Sm at h
  unfold S_sEqualInts
  simp only [len_i, rws_i, geti_i]
  by_cases hl : a.length = b.length
  · rw [len_bne hl, cnd_ff]
    refine (eqs_loop a b hl (by omega) (fun k => (a, b, (k : Int))) (some true) (some false) rfl ?_ ?_).trans (by split <;> simp_all)
    · intro rec; simp
    · intro rec k x y hx hy hk
      simp [hk, getZ_at hx, getZ_at hy, W_n1 (show k ≤ 9223372036854775806 by omega), cnd_if]
  · rw [len_bne' hl, cnd_tt]
    simp [ne_of_len hl]
theorem slices_Equal_int_int_v (a b : List Int) (h : Sm a) : S_slices_Equal_int_int a b = some (decide (a = b)) := by
  unfold Sm at h
  unfold S_slices_Equal_int_int
  simp only [len_i, rws_i, geti_i]
  by_cases hl : a.length = b.length
  · rw [len_bne hl, cnd_ff]
    refine (eqs_loop a b hl (by omega) (fun k => (a, b, (a.length : Int), (k : Int))) (some true) (some false) rfl ?_ ?_).trans (by split <;> simp_all)
    · intro rec; simp
    · intro rec k x y hx hy hk
      simp [hk, getZ_at hx, getZ_at hy, W_n1 (show k ≤ 9223372036854775806 by omega), cnd_if]
  · rw [len_bne' hl, cnd_tt]
    simp [ne_of_len hl]
theorem NN_64 : ∃ n, NN = n + 64 := ⟨NN - 64, by rw [NN_eq]⟩
/-- whether the ways from a to b and from c to d cross, round a circle of eight -/
def crossI (a b c d : Int) : Bool := if a = b ∨ a = c ∨ a = d ∨ b = c ∨ b = d ∨ c = d then false else (decide (Int.tmod (c - a + 8) 8 < Int.tmod (b - a + 8) 8) != decide (Int.tmod (d - a + 8) 8 < Int.tmod (b - a + 8) 8))
theorem iInterleave_v {a b c d : Int} (ha : 0 ≤ a ∧ a ≤ 7) (hb : 0 ≤ b ∧ b ≤ 7) (hc : 0 ≤ c ∧ c ≤ 7) (hd : 0 ≤ d ∧ d ≤ 7) : S_iInterleave a b c d = some (crossI a b c d) := by
  unfold S_iInterleave crossI
  obtain ⟨n, hn⟩ := NN_64
  rw [hn]
  have e : ∀ K : List Int → Option Bool, rws iR [[I a], [I b], [I c], [I d]] K = K [a, b, c, d] := fun _ => rfl
  have w1 : W (c - a) = c - a := W_id (by omega) (by omega)
  have w2 : W (b - a) = b - a := W_id (by omega) (by omega)
  have w3 : W (d - a) = d - a := W_id (by omega) (by omega)
  have w4 : W (c - a + 8) = c - a + 8 := W_id (by omega) (by omega)
  have w5 : W (b - a + 8) = b - a + 8 := W_id (by omega) (by omega)
  have w6 : W (d - a + 8) = d - a + 8 := W_id (by omega) (by omega)
  simp only [e, geti_i, len_i, rws_i]
  simp [iter, iInRange_v, getZ, W_id, ha, hb, hc, hd, w1, w2, w3, w4, w5, w6, cnd_if]
  grind
def arm (n : Int) : Prop := n = 0 ∨ n = 1 ∨ n = 2 ∨ n = 3
set_option maxRecDepth 100000 in
theorem sInterleave_v {a b c d : Int} (ha : arm a) (hb : arm b) (hc : arm c) (hd : arm d) : S_sInterleave (2 * a) (2 * b + 1) (2 * c) (2 * d + 1) = some (crossI (2 * a) (2 * b + 1) (2 * c) (2 * d + 1)) := by
  unfold S_sInterleave
  obtain ⟨n, hn⟩ := NN_64
  rw [hn]
  rcases ha with rfl | rfl | rfl | rfl <;> rcases hb with rfl | rfl | rfl | rfl <;> rcases hc with rfl | rfl | rfl | rfl <;> rcases hd with rfl | rfl | rfl | rfl <;> rfl
def conflict (a b : Path) : Bool :=
  if isPath a = false ∨ isPath b = false then false
  else if a.kind = 2 ∧ b.kind = 2 then false
  else if a.kind = 2 then b.src == a.src || b.dst == a.src
  else if b.kind = 2 then a.src == b.src || a.dst == b.src
  else if a.src = b.src then false
  else if a.dst = b.dst then true
  else crossI (2 * a.src) (2 * a.dst + 1) (2 * b.src) (2 * b.dst + 1)
theorem arm_src {p : Path} (h : isPath p = true) : arm p.src := by
  simp [isPath, inR] at h
  unfold arm; omega
theorem arm_dst {p : Path} (h : isPath p = true) : arm p.dst := by
  simp [isPath, inR] at h
  unfold arm; omega
theorem arm_rg {n : Int} (h : arm n) : 0 ≤ n ∧ n ≤ 3 := by unfold arm at h; omega
theorem sInPlace_v {n : Int} (h : arm n) : S_sInPlace n = some (2 * n) := by rcases h with rfl | rfl | rfl | rfl <;> rfl
theorem sOutPlace_v {n : Int} (h : arm n) : S_sOutPlace n = some (2 * n + 1) := by rcases h with rfl | rfl | rfl | rfl <;> rfl
theorem iInPlace_v {n : Int} (h : arm n) : S_iInPlace n = some (2 * n) := by rcases h with rfl | rfl | rfl | rfl <;> rfl
theorem iOutPlace_v {n : Int} (h : arm n) : S_iOutPlace n = some (2 * n + 1) := by rcases h with rfl | rfl | rfl | rfl <;> rfl
theorem sConflict_v (a b : Path) : S_sConflict a b = some (conflict a b) := by
  unfold S_sConflict conflict
  simp only [sIsPath_v, bnd_some]
  cases ha : isPath a with
  | false => simp
  | true =>
  cases hb : isPath b with
  | false => simp
  | true =>
  simp [sInPlace_v (arm_src ha), sOutPlace_v (arm_dst ha), sInPlace_v (arm_src hb), sOutPlace_v (arm_dst hb), sInterleave_v (arm_src ha) (arm_dst ha) (arm_src hb) (arm_dst hb), cnd_if]
  grind
theorem iConflict_v (a b : Path) : S_iConflict a b = some (conflict a b) := by
  unfold S_iConflict conflict
  simp only [iIsPath_v, bnd_some]
  cases ha : isPath a with
  | false => simp
  | true =>
  cases hb : isPath b with
  | false => simp
  | true =>
  have r1 := arm_rg (arm_src ha)
  have r2 := arm_rg (arm_dst ha)
  have r3 := arm_rg (arm_src hb)
  have r4 := arm_rg (arm_dst hb)
  have hi := iInterleave_v (a := 2 * a.src) (b := 2 * a.dst + 1) (c := 2 * b.src) (d := 2 * b.dst + 1) (by omega) (by omega) (by omega) (by omega)
  have hz : a.src = b.src → crossI (2 * a.src) (2 * a.dst + 1) (2 * b.src) (2 * b.dst + 1) = false := fun h => by simp [crossI, h]
  simp [iInPlace_v (arm_src ha), iOutPlace_v (arm_dst ha), iInPlace_v (arm_src hb), iOutPlace_v (arm_dst hb), hi, cnd_if]
  grind
def has (l : List Int) (n : Int) : Bool := l.any fun x => x == n
theorem sl6Has_v (l : List Int) (n : Int) (h : Sm l) : S_sl6Has l n = some (has l n) := by
  unfold Sm at h
  unfold S_sl6Has has
  simp
  refine (iter_list0 l (by omega) (fun k (_ : Unit) => (l, n, (k : Int))) () (fun s _ _ => some (s.any fun x => x == n)) rfl ?_ ?_).trans (by simp)
  · intro rec _; simp
  · intro rec k x _ hx hk hr
    have hr' := hr ()
    simp only [Int.natCast_succ] at hr'
    simp [hk, getZ_at hx, W_n1 (show k ≤ 9223372036854775806 by omega), cnd_if]
    by_cases e : x = n
    · simp [e]
    · simp [e, hr']
/-- where a loop finds it -/
theorem findIdx_some' {α : Type} (p : α → Bool) : ∀ l : List α, (l.findIdx? p).isSome = l.any p
  | [] => rfl
  | x :: l => by
    rw [List.findIdx?_cons, List.any_cons]
    cases p x with
    | true => rfl
    | false => simp [findIdx_some' p l]
theorem slices_Contains_int_int_v (l : List Int) (n : Int) (h : Sm l) : S_slices_Contains_int_int l n = some (has l n) := by
  unfold Sm at h
  unfold S_slices_Contains_int_int S_slices_Index_int_int has
  simp
  generalize hI : iter (_ : (List Int × Int × Int × Int → Option Int) → _ → Option Int) NN _ = I
  have hI' : I = match l.findIdx? (fun x => x == n) with | some i => some (i : Int) | none => some (-1) := by
    rw [← hI]
    refine (iter_list0 l (by omega) (fun k (_ : Unit) => (l, n, (l.length : Int), (k : Int))) () (fun s k _ => match s.findIdx? (fun x => x == n) with | some i => some ((k + i : Nat) : Int) | none => some (-1)) rfl ?_ ?_).trans (by cases l.findIdx? _ <;> simp)
    · intro rec _; simp
    · intro rec k x _ hx hk hr
      have hr' := hr ()
      simp only [Int.natCast_succ] at hr'
      rw [List.findIdx?_cons]
      simp [hk, getZ_at hx, W_n1 (show k ≤ 9223372036854775806 by omega), cnd_if]
      by_cases e : x = n
      · simp [e]
      · rw [if_neg (fun h => e h.symm), hr']
        simp [e]
        cases (l.drop (k + 1)).findIdx? (fun x => x == n) with
        | none => simp
        | some i => simp; omega
  rw [hI', ← findIdx_some']
  cases l.findIdx? (fun x => x == n) <;> simp
theorem find_loop {α V β : Type} (l : List α) (p : α → Bool) (hl : l.length ≤ 1099511627776) (st : Nat → V) (K : Nat → Option β) (no : Option β) {F : (V → Option β) → V → Option β} {v : V} (hv : v = st 0)
    (h0 : ∀ rec, F rec (st l.length) = no)
    (h1 : ∀ rec k x, l[k]? = some x → k < l.length → F rec (st k) = if p x = true then K k else rec (st (k + 1))) : iter F NN v = match l.findIdx? p with | some i => K i | none => no := by
  refine (iter_list0 l (by omega) (fun k (_ : Unit) => st k) () (fun s k _ => match s.findIdx? p with | some i => K (k + i) | none => no) hv ?_ ?_).trans ?_
  · intro rec _
    rw [h0]; simp
  · intro rec k x _ hx hk hr
    rw [h1 rec k x hx hk, List.findIdx?_cons]
    cases p x with
    | true => simp
    | false =>
      rw [if_neg (by simp), hr ()]
      cases (l.drop (k + 1)).findIdx? p with
      | none => simp
      | some i => simp; congr 1; omega
  · cases l.findIdx? p <;> simp
def findPath (l : List Path) (id : Int) : Int := match l.findIdx? (fun p => p.id == id) with | some i => (i : Int) | none => -1
theorem sFindPath_v (l : List Path) (id : Int) (h : Sm l) : S_sFindPath l id = some (findPath l id) := by
  unfold Sm at h
  unfold S_sFindPath findPath
  simp
  refine (find_loop l (fun p => p.id == id) (by omega) (fun k => (l, id, (k : Int))) (fun k => some (k : Int)) (some (-1)) rfl ?_ ?_).trans ?_
  · intro rec; simp
  · intro rec k x hx hk
    simp [hk, getZ_at hx, W_n1 (show k ≤ 9223372036854775806 by omega), cnd_if]
  · cases l.findIdx? _ <;> rfl
theorem iFindPath_v (l : List Path) (id : Int) (h : Sm l) : S_iFindPath l id = some (findPath l id) := by
  unfold Sm at h
  unfold S_iFindPath S_slices_IndexFunc_loop_example_g03006_impl_Path_loop_example_g03006_impl_Path S_iFindPath_1 findPath
  simp
  refine (find_loop l (fun p => p.id == id) (by omega) (fun k => (l, id, (l.length : Int), (k : Int))) (fun k => some (k : Int)) (some (-1)) rfl ?_ ?_).trans ?_
  · intro rec; simp
  · intro rec k x hx hk
    simp [hk, getZ_at hx, W_n1 (show k ≤ 9223372036854775806 by omega), cnd_if]
  · cases l.findIdx? _ <;> rfl
theorem findPath_lt {l : List Path} {id : Int} (h : ¬ findPath l id < 0) : ∃ (i : Nat) (x : Path), l[i]? = some x ∧ findPath l id = (i : Int) ∧ x.id = id := by
  unfold findPath at h ⊢
  cases hf : l.findIdx? (fun p => p.id == id) with
  | none => rw [hf] at h; simp at h
  | some i =>
    have := List.findIdx?_eq_some_iff_getElem.1 hf
    obtain ⟨h1, h2, _⟩ := this
    exact ⟨i, l[i], List.getElem?_eq_getElem h1, rfl, by simpa using h2⟩
def pathAt (l : List Path) (id : Int) : Path := (l[(findPath l id).toNat]?).getD default
theorem getZ_find {β : Type} {l : List Path} {id : Int} (h : ¬ findPath l id < 0) (K : Path → Option β) : getZ l (findPath l id) K = K (pathAt l id) := by
  obtain ⟨i, x, h1, h2, _⟩ := findPath_lt h
  unfold pathAt
  rw [h2, getZ_at h1, Int.toNat_natCast, h1]
  rfl
def prevOk (ids : List Int) (k : Nat) (x : Int) : Bool := if k = 0 then true else match ids[k - 1]? with | some y => decide (y < x) | none => true
def noClash (l : List Path) (x y : Int) : Bool := !conflict (pathAt l x) (pathAt l y)
def goT (l : List Path) (ids : List Int) : Nat → List Int → Bool
  | _, [] => true
  | k, x :: r => !decide (findPath l x < 0) && prevOk ids k x && (ids.take k).all (noClash l x) && goT l ids (k + 1) r
def together (l : List Path) (ids : List Int) : Bool := goT l ids 0 ids && arePaths l
theorem take_at' {α : Type} {l : List α} {k j : Nat} {x : α} (h : (l.take k)[j]? = some x) : l[j]? = some x := by
  rw [List.getElem?_take] at h
  split at h
  · exact h
  · cases h
theorem mem_take_succ {α : Type} {l : List α} {k : Nat} {x y : α} (hx : l[k]? = some x) (h : y ∈ l.take (k + 1)) : y ∈ l.take k ∨ y = x := by
  rw [List.take_add_one, hx] at h
  simpa using h
theorem sIsTogether_v (l : List Path) (ids : List Int) (h : Sm l) (hi : Sm ids) : S_sIsTogether l ids = some (together l ids) := by
  unfold S_sIsTogether together
  simp
  have hi' := hi
  unfold Sm at hi'
  refine (iter_listJ ids (by omega) (fun k (_ : Unit) => (l, ids, (k : Int))) () (fun k _ => ∀ y ∈ ids.take k, ¬ findPath l y < 0) (by simp) (fun s k _ => some (goT l ids k s && arePaths l)) rfl ?_ ?_).trans rfl
  · intro rec _ _
    simp [sArePaths_v l h, goT]
  · intro rec k x _ hJ hx hk hr
    simp only [Int.natCast_succ] at hr
    have hk2 : k ≤ 9223372036854775806 := by omega
    simp [hk, getZ_at hx, sFindPath_v l _ h, goT]
    by_cases c1 : findPath l x < 0
    · simp [c1]
    have hr' := hr () fun y hy => by
      rcases mem_take_succ hx hy with h1 | rfl
      · exact hJ y h1
      · exact c1
    simp only [c1, decide_false, cnd_ff, Bool.not_false, Bool.true_and]
    have hlen : (ids.take k).length = k := by rw [List.length_take]; omega
    generalize hI : iter (_ : (List Path × List Int × Int × Int × Int → Option Bool) → _ → Option Bool) NN _ = I
    have hI' : I = if (ids.take k).all (noClash l x) = true then some (goT l ids (k + 1) (ids.drop (k + 1)) && arePaths l) else some false := by
      rw [← hI]
      refine all_loop (ids.take k) (noClash l x) (by omega) (fun j => (l, ids, (k : Int), findPath l x, (j : Int))) _ _ rfl ?_ ?_
      · intro rec'
        simp [hlen, W_n1 hk2, hr']
      · intro rec' j y hy hj
        have hy' := take_at' hy
        have hj' : j < k := by omega
        simp [hj', getZ_find c1, getZ_at hy', sFindPath_v l _ h, getZ_find (hJ y (mem_at hy)), sConflict_v, W_n1 (show j ≤ 9223372036854775806 by omega), cnd_if, noClash]
        cases conflict (pathAt l x) (pathAt l y) <;> simp
    rw [hI']
    generalize (ids.take k).all (noClash l x) = A
    by_cases h0 : k = 0
    · subst h0
      simp [prevOk]
      cases A <;> simp
    · have hz : ids[k - 1]? = some ids[k - 1] := List.getElem?_eq_getElem (by omega)
      have hk1 : W ((k : Int) - 1) = ((k - 1 : Nat) : Int) := by rw [W_id (by omega) (by omega)]; omega
      simp [show 0 < k by omega, hk1, getZ_at hz]
      rw [show prevOk ids k x = decide (ids[k - 1] < x) by unfold prevOk; simp [h0, hz]]
      by_cases c4 : x ≤ ids[k - 1]
      · simp [c4, show ¬ ids[k - 1] < x by omega]
      · simp [c4, show ids[k - 1] < x by omega]
        cases A <;> simp
theorem iIsTogether_v (l : List Path) (ids : List Int) (h : Sm l) (hi : Sm ids) : S_iIsTogether l ids = some (together l ids) := by
  unfold S_iIsTogether together
  simp [iArePaths_v l h]
  have hi' := hi
  unfold Sm at hi'
  cases hp : arePaths l with
  | false => simp
  | true =>
  simp
  refine (iter_listJ ids (by omega) (fun k (_ : Unit) => (l, ids, ids, (ids.length : Int), (k : Int))) () (fun k _ => ∀ y ∈ ids.take k, ¬ findPath l y < 0) (by simp) (fun s k _ => some (goT l ids k s)) rfl ?_ ?_).trans rfl
  · intro rec _ _
    simp [goT]
  · intro rec k x _ hJ hx hk hr
    simp only [Int.natCast_succ] at hr
    have hk2 : k ≤ 9223372036854775806 := by omega
    simp [hk, getZ_at hx, iFindPath_v l _ h, goT]
    by_cases c1 : findPath l x < 0
    · simp [c1]
    have hr' := hr () fun y hy => by
      rcases mem_take_succ hx hy with h1 | rfl
      · exact hJ y h1
      · exact c1
    simp only [c1, decide_false, cnd_ff, Bool.not_false, Bool.true_and]
    have hlen : (ids.take k).length = k := by rw [List.length_take]; omega
    generalize hI : iter (_ : (List Path × List Int × Int × List Int × Int × Int × List Int × Int × Int → Option Bool) → _ → Option Bool) NN _ = I
    have hI' : I = if (ids.take k).all (noClash l x) = true then some (goT l ids (k + 1) (ids.drop (k + 1))) else some false := by
      rw [← hI]
      refine all_loop (ids.take k) (noClash l x) (by omega) (fun j => (l, ids, findPath l x, ids, (ids.length : Int), (k : Int), ids.take k, ((ids.take k).length : Int), (j : Int))) _ _ (by simp) ?_ ?_
      · intro rec'
        simp [hlen, W_n1 hk2, hr']
      · intro rec' j y hy hj
        have hj' : j < k := by omega
        simp [hlen, hj', getZ_find c1, getZ_at hy, iFindPath_v l _ h, getZ_find (hJ y (mem_at hy)), iConflict_v, W_n1 (show j ≤ 9223372036854775806 by omega), cnd_if, noClash]
        cases conflict (pathAt l x) (pathAt l y) <;> simp
    rw [hI']
    generalize (ids.take k).all (noClash l x) = A
    have hkl : k ≤ ids.length := by omega
    by_cases h0 : k = 0
    · subst h0
      simp [prevOk]
      cases A <;> simp
    · have hz : ids[k - 1]? = some ids[k - 1] := List.getElem?_eq_getElem (by omega)
      have hk1 : W ((k : Int) - 1) = ((k - 1 : Nat) : Int) := by rw [W_id (by omega) (by omega)]; omega
      simp [show 0 < k by omega, hk1, getZ_at hz, hkl]
      rw [show prevOk ids k x = decide (ids[k - 1] < x) by unfold prevOk; simp [h0, hz]]
      by_cases c4 : x ≤ ids[k - 1]
      · simp [c4, show ¬ ids[k - 1] < x by omega]
      · simp [c4, show ids[k - 1] < x by omega]
        cases A <;> simp
@[simp] theorem rws_app_i' {β : Type} (l : List Int) (s : Int) (K : List Int → Option β) : rws iR (l.map iR.enc ++ [[I s]]) K = K (l ++ [s]) :=
  (congrArg (fun z => rws iR z K) (List.map_append (f := iR.enc) (l₁ := l) (l₂ := [s])).symm).trans (rws_enc iR (l ++ [s]) K)
@[simp] theorem bnd_id' {α : Type} (x : Option α) : bnd x (fun r => some r) = x := by cases x <;> rfl
/-- a list that takes what passes -/
theorem filter_loop {α β V : Type} (l : List α) (p : α → Bool) (hl : l.length ≤ 1099511627776) (st : Nat → List α → V) (K : List α → Option β) {F : (V → Option β) → V → Option β} {v : V} (hv : v = st 0 [])
    (h0 : ∀ rec acc, acc.length ≤ l.length → F rec (st l.length acc) = K acc)
    (h1 : ∀ rec k x acc, l[k]? = some x → k < l.length → acc.length ≤ k → F rec (st k acc) = rec (st (k + 1) (if p x = true then acc ++ [x] else acc))) : iter F NN v = K (l.filter p) := by
  refine (iter_listJ l (by omega) st [] (fun k acc => acc.length ≤ k) (Nat.le_refl _) (fun s _ acc => K (acc ++ s.filter p)) hv ?_ ?_).trans (by simp)
  · intro rec acc h
    rw [h0 rec acc h]
    simp
  · intro rec k x acc h hx hk hr
    rw [h1 rec k x acc hx hk h]
    cases hp : p x with
    | true => rw [if_pos rfl, hr _ (by simp; omega), List.filter_cons_of_pos hp]; simp
    | false => rw [if_neg (by simp), hr _ (by omega), List.filter_cons_of_neg (by simp [hp])]
def closes (a b : List Int) : List Int := a.filter fun x => !has b x
theorem sCloses_v (a b : List Int) (h : Sm a) (hb : Sm b) : S_sCloses a b = some (closes a b) := by
  have h' := h
  unfold Sm at h'
  unfold S_sCloses closes
  simp
  refine (filter_loop a (fun x => !has b x) (by omega) (fun k acc => (a, b, acc, (k : Int))) some rfl ?_ ?_)
  · intro rec acc ha; simp
  · intro rec k x acc hx hk ha
    simp [hk, getZ_at hx, sl6Has_v b _ hb, W_n1 (show k ≤ 9223372036854775806 by omega), show (acc.length + 1) * 8 ≤ 140737488355328 by omega, show acc.length ≤ 1152921504606846975 by omega]
    cases has b x <;> simp
theorem iCloses_v (a b : List Int) (h : Sm a) (hb : Sm b) : S_iCloses a b = some (closes a b) := by
  have h' := h
  unfold Sm at h'
  unfold S_iCloses S_isieve closes
  simp
  refine (filter_loop a (fun x => !has b x) (by omega) (fun k acc => (b, false, acc, a, (a.length : Int), (k : Int))) some rfl ?_ ?_)
  · intro rec acc ha; simp
  · intro rec k x acc hx hk ha
    simp [hk, getZ_at hx, slices_Contains_int_int_v b _ hb, W_n1 (show k ≤ 9223372036854775806 by omega), show (acc.length + 1) * 8 ≤ 140737488355328 by omega, show acc.length ≤ 1152921504606846975 by omega]
    cases has b x <;> simp
theorem goT_find {l : List Path} {ids : List Int} : ∀ {s : List Int} {k : Nat}, goT l ids k s = true → ∀ x ∈ s, ¬ findPath l x < 0
  | [], _, _ => fun x hx => by cases hx
  | y :: s, k, h => fun x hx => by
    simp only [goT, Bool.and_eq_true, Bool.not_eq_true', decide_eq_false_iff_not] at h
    rcases List.mem_cons.1 hx with rfl | hx
    · exact h.1.1.1
    · exact goT_find h.2 x hx
theorem together_find {l : List Path} {ids : List Int} (h : together l ids = true) : ∀ x ∈ ids, ¬ findPath l x < 0 := by
  simp only [together, Bool.and_eq_true] at h
  exact goT_find h.1
theorem closes_sub {a b : List Int} {x : Int} (h : x ∈ closes a b) : x ∈ a := (List.mem_filter.1 h).1
theorem closes_sm {a b : List Int} (h : Sm a) : Sm (closes a b) := Nat.le_trans (List.length_filter_le _ _) h
def most (n c : Int) : Int := if n < c then c else n
def stepC (l : List Path) (x : Int) (n y : Int) : Int := if conflict (pathAt l x) (pathAt l y) then most n (clearOf (pathAt l x)) else n
def clearBetween (l : List Path) (a b : List Int) : Int :=
  if together l a = true ∧ together l b = true then (closes a b).foldl (fun n x => (closes b a).foldl (stepC l x) n) 0 else 0
theorem iClearBetween_v (l : List Path) (a b : List Int) (h : Sm l) (ha : Sm a) (hb : Sm b) : S_iClearBetween l a b = some (clearBetween l a b) := by
  unfold S_iClearBetween clearBetween
  simp [iIsTogether_v l _ h ha, iIsTogether_v l _ h hb, iCloses_v _ _ ha hb, iCloses_v _ _ hb ha]
  cases t1 : together l a with
  | false => simp
  | true =>
  cases t2 : together l b with
  | false => simp
  | true =>
  simp
  have hA := closes_sm (b := b) ha
  have hB := closes_sm (b := a) hb
  unfold Sm at hA hB
  refine (iter_list0 (closes a b) (by omega) (fun k n => (l, a, b, n, closes a b, ((closes a b).length : Int), (k : Int))) 0 (fun s _ n => some (s.foldl (fun n x => (closes b a).foldl (stepC l x) n) n)) rfl ?_ ?_).trans rfl
  · intro rec n; simp
  · intro rec k x n hx hk hr
    simp only [Int.natCast_succ] at hr
    have hfx := together_find t1 x (closes_sub (mem_at hx))
    simp [hk, getZ_at hx, iCloses_v _ _ hb ha]
    refine (iter_list0 (closes b a) (by omega) (fun j n => (l, a, b, n, x, closes a b, ((closes a b).length : Int), (k : Int), closes b a, ((closes b a).length : Int), (j : Int))) n (fun s _ n => rec (l, a, b, s.foldl (stepC l x) n, closes a b, ((closes a b).length : Int), (k : Int) + 1)) rfl ?_ ?_).trans ?_
    · intro rec' n
      simp [W_n1 (show k ≤ 9223372036854775806 by omega)]
    · intro rec' j y n hy hj hr'
      simp only [Int.natCast_succ] at hr'
      have hfy := together_find t2 y (closes_sub (mem_at hy))
      simp [hj, getZ_at hy, iFindPath_v l _ h, getZ_find hfx, getZ_find hfy, iConflict_v, iClearOf_v, W_n1 (show j ≤ 9223372036854775806 by omega), cnd_if]
      cases hc : conflict (pathAt l x) (pathAt l y) <;> simp [stepC, most, hc, hr']
    · simp [hr]
theorem sClearBetween_v (l : List Path) (a b : List Int) (h : Sm l) (ha : Sm a) (hb : Sm b) : S_sClearBetween l a b = some (clearBetween l a b) := by
  unfold S_sClearBetween clearBetween
  simp [sCloses_v _ _ ha hb, sCloses_v _ _ hb ha]
  have hA := closes_sm (b := b) ha
  have hB := closes_sm (b := a) hb
  unfold Sm at hA hB
  refine (iter_list0 (closes a b) (by omega) (fun k n => (l, a, b, n, closes a b, closes b a, (k : Int))) 0 (fun s _ n => some (if together l a = true ∧ together l b = true then s.foldl (fun n x => (closes b a).foldl (stepC l x) n) n else n)) rfl ?_ ?_).trans rfl
  · intro rec n; simp
  · intro rec k x n hx hk hr
    simp only [Int.natCast_succ] at hr
    simp [hk, getZ_at hx, sIsTogether_v l _ h ha, sIsTogether_v l _ h hb]
    cases t1 : together l a with
    | false => simp
    | true =>
    cases t2 : together l b with
    | false => simp
    | true =>
    simp only [t1, t2, and_self, if_true] at hr
    simp
    have hfx := together_find t1 x (closes_sub (mem_at hx))
    refine (iter_list0 (closes b a) (by omega) (fun j n => (l, a, b, n, closes a b, closes b a, (k : Int), (j : Int))) n (fun s _ n => rec (l, a, b, s.foldl (stepC l x) n, closes a b, closes b a, (k : Int) + 1)) rfl ?_ ?_).trans ?_
    · intro rec' n
      simp [W_n1 (show k ≤ 9223372036854775806 by omega)]
    · intro rec' j y n hy hj hr'
      simp only [Int.natCast_succ] at hr'
      have hfy := together_find t2 y (closes_sub (mem_at hy))
      simp [hj, getZ_at hx, getZ_at hy, sFindPath_v l _ h, getZ_find hfx, getZ_find hfy, sConflict_v, sClearOf_v, sMax_v, W_n1 (show j ≤ 9223372036854775806 by omega), cnd_if]
      cases hc : conflict (pathAt l x) (pathAt l y) <;> simp [stepC, most, hc, hr']
    · simp [hr]
def isControl (l : List Path) (x : Control) : Bool :=
  !x.stage.isEmpty && together l x.stage && together l x.next && inR x.since 0 1000000 && (if x.next = [] then x.left == 0 else inR x.left 1 (clearBetween l x.stage x.next))
theorem len0 {α : Type} (l : List α) : (((l.length : Nat) : Int) == 0) = l.isEmpty := by
  cases l with
  | nil => rfl
  | cons x l => simp; omega
theorem sIsControl_v (l : List Path) (x : Control) (h : Sm l) (hx : SmControl x) : S_sIsControl l x = some (isControl l x) := by
  obtain ⟨h1, h2⟩ := hx
  unfold S_sIsControl isControl
  simp only [rws_path, rws_i, len_i, len0, sIsTogether_v l _ h h1, sIsTogether_v l _ h h2, sClearBetween_v l _ _ h h1 h2, sl1In_r, bnd_some]
  cases x.stage.isEmpty <;> cases together l x.stage <;> cases together l x.next <;> cases inR x.since 0 1000000 <;> cases hn : x.next <;> simp
theorem iIsControl_v (l : List Path) (x : Control) (h : Sm l) (hx : SmControl x) : S_iIsControl l x = some (isControl l x) := by
  obtain ⟨h1, h2⟩ := hx
  unfold S_iIsControl isControl
  simp only [rws_path, rws_i, len_i, len0, iIsTogether_v l _ h h1, iIsTogether_v l _ h h2, iClearBetween_v l _ _ h h1 h2, iInRange_r, bnd_some]
  cases x.stage.isEmpty <;> cases together l x.stage <;> cases together l x.next <;> cases inR x.since 0 1000000 <;> cases hn : x.next <;> simp
/-- a list of ints that grows one by one -/
theorem map_loop {α β V : Type} (l : List α) (f : α → Int) (hl : l.length ≤ 1099511627776) (st : Nat → List Int → V) (K : List Int → Option β) {F : (V → Option β) → V → Option β} {v : V} (hv : v = st 0 [])
    (h0 : ∀ rec acc, acc.length = l.length → F rec (st l.length acc) = K acc)
    (h1 : ∀ rec k x acc, l[k]? = some x → k < l.length → acc.length = k → F rec (st k acc) = rec (st (k + 1) (acc ++ [f x]))) : iter F NN v = K (l.map f) := by
  refine (iter_listJ l (by omega) st [] (fun k acc => acc.length = k) rfl (fun s _ acc => K (acc ++ s.map f)) hv ?_ ?_).trans (by simp)
  · intro rec acc h
    rw [h0 rec acc h]
    simp
  · intro rec k x acc h hx hk hr
    rw [h1 rec k x acc hx hk h, hr _ (by simp [h])]
    simp
def lightAt (x : Control) (id : Int) : Int := if has x.stage id then (if x.next.isEmpty = false ∧ has x.next id = false then 2 else 1) else 0
def lightsOf (l : List Path) (x : Control) : List Int := if isControl l x then l.map (fun p => lightAt x p.id) else []
theorem len1 {α : Type} (l : List α) : decide (((l.length : Nat) : Int) > 0) = !l.isEmpty := by
  cases l with
  | nil => rfl
  | cons x l => simp
theorem iLightsOf_v (l : List Path) (x : Control) (h : Sm l) (hx : SmControl x) : S_iLightsOf l x = some (lightsOf l x) := by
  have hx' := hx
  obtain ⟨h1, h2⟩ := hx
  have hl := h
  unfold Sm at hl
  unfold S_iLightsOf lightsOf
  simp only [rws_path, rws_i, len_path, eta_Control, iIsControl_v l x h hx', bnd_some]
  cases isControl l x with
  | false => simp
  | true =>
  simp only [Bool.not_true, cnd_ff, if_true]
  refine map_loop l (fun p => lightAt x p.id) (by omega) (fun k acc => ((acc, l, (l.length : Int), (k : Int)), x)) some rfl ?_ ?_
  · intro rec acc ha
    simp
  · intro rec k p acc hp hk ha
    simp [hk, getZ_at hp, slices_Contains_int_int_v _ _ h1, slices_Contains_int_int_v _ _ h2, W_n1 (show k ≤ 9223372036854775806 by omega), ha, show (k + 1) * 8 ≤ 140737488355328 by omega, show k ≤ 1152921504606846975 by omega, len1]
    unfold lightAt
    cases has x.stage p.id with
    | false => simp
    | true =>
      cases hn : x.next with
      | nil => simp
      | cons y r =>
        simp [cnd_if]
        cases has (y :: r) p.id <;> simp
theorem sLightsOf_v (l : List Path) (x : Control) (h : Sm l) (hx : SmControl x) : S_sLightsOf l x = some (lightsOf l x) := by
  have hx' := hx
  obtain ⟨h1, h2⟩ := hx
  have hl := h
  unfold Sm at hl
  unfold S_sLightsOf lightsOf
  simp only [rws_path, rws_i, len_path, eta_Control]
  cases hc : isControl l x with
  | false =>
    refine (iter_list0 l (by omega) (fun k (_ : Unit) => ((l, ([] : List Int), (k : Int)), x)) () (fun _ _ _ => some []) rfl ?_ ?_).trans rfl
    · intro rec _
      simp
    · intro rec k p _ hp hk _
      simp [hk, sIsControl_v l x h hx', hc]
  | true =>
  simp only [if_true]
  refine map_loop l (fun p => lightAt x p.id) (by omega) (fun k acc => ((l, acc, (k : Int)), x)) some rfl ?_ ?_
  · intro rec acc ha
    simp
  · intro rec k p acc hp hk ha
    simp [hk, getZ_at hp, sIsControl_v l x h hx', hc, sl6Has_v _ _ h1, sl6Has_v _ _ h2, W_n1 (show k ≤ 9223372036854775806 by omega), ha, show (k + 1) * 8 ≤ 140737488355328 by omega, show k ≤ 1152921504606846975 by omega, len1]
    unfold lightAt
    cases has x.stage p.id with
    | false => simp
    | true =>
      cases hn : x.next with
      | nil => simp
      | cons y r =>
        simp [cnd_if]
        cases has (y :: r) p.id <;> simp
theorem iall_v (l : List Path) (n : Int) (h : Sm l) : S_iall l n = some (l.map fun _ => n) := by
  unfold Sm at h
  unfold S_iall
  simp only [rws_path, rws_i, len_path]
  refine map_loop l (fun _ => n) (by omega) (fun k acc => (n, acc, (l.length : Int), (k : Int))) some rfl ?_ ?_
  · intro rec acc ha
    simp
  · intro rec k p acc hp hk ha
    simp [hk, W_n1 (show k ≤ 9223372036854775806 by omega), ha, show (k + 1) * 8 ≤ 140737488355328 by omega, show k ≤ 1152921504606846975 by omega]
theorem sl33All_v (t : Town) (n : Int) (h : Sm t.paths) : S_sl33All t n = some (t.paths.map fun _ => n) := by
  unfold Sm at h
  unfold S_sl33All
  simp
  refine map_loop t.paths (fun _ => n) (by omega) (fun k acc => ((n, acc, (k : Int)), t)) some rfl ?_ ?_
  · intro rec acc ha
    simp
  · intro rec k p acc hp hk ha
    simp [hk, W_n1 (show k ≤ 9223372036854775806 by omega), ha, show (k + 1) * 8 ≤ 140737488355328 by omega, show k ≤ 1152921504606846975 by omega]
theorem findIdx_some {α : Type} (p : α → Bool) (l : List α) : (l.findIdx? p).isSome = l.any p := findIdx_some' p l
def lampOk (l : List Path) (p : Lamp) : Bool := !decide (findPath l p.path < 0) && inR p.colour 0 1
def noDup (p q : Lamp) : Bool := !(q.path == p.path && q.colour == p.colour)
def goL (l : List Path) (x : List Lamp) : Nat → List Lamp → Bool
  | _, [] => true
  | k, p :: r => lampOk l p && (x.take k).all (noDup p) && goL l x (k + 1) r
def areLamps (l : List Path) (x : List Lamp) : Bool := goL l x 0 x && arePaths l
theorem take_at {α : Type} {l : List α} {k j : Nat} {x : α} (h : (l.take k)[j]? = some x) : l[j]? = some x := by
  rw [List.getElem?_take] at h
  split at h
  · exact h
  · cases h
theorem sAreLamps_v (l : List Path) (x : List Lamp) (h : Sm l) (hx : Sm x) : S_sAreLamps l x = some (areLamps l x) := by
  unfold S_sAreLamps areLamps
  simp
  have hx' := hx
  unfold Sm at hx'
  refine (iter_list0 x (by omega) (fun k (_ : Unit) => (l, x, (k : Int))) () (fun s k _ => some (goL l x k s && arePaths l)) rfl ?_ ?_).trans rfl
  · intro rec _
    simp [sArePaths_v l h, goL]
  · intro rec k p _ hp hk hr
    simp only [Int.natCast_succ] at hr
    have hk2 : k ≤ 9223372036854775806 := by omega
    simp [hk, getZ_at hp, sFindPath_v l _ h, sl1In_r, goL, lampOk]
    by_cases c1 : findPath l p.path < 0
    · simp [c1]
    simp only [c1, decide_false, cnd_ff, Bool.not_false, Bool.true_and]
    cases c2 : inR p.colour 0 1 with
    | false => simp
    | true =>
    simp only [Bool.not_true, cnd_ff, Bool.true_and]
    have hlen : (x.take k).length = k := by rw [List.length_take]; omega
    refine (all_loop (x.take k) (noDup p) (by omega) (fun j => (l, x, (k : Int), (j : Int))) (some (goL l x (k + 1) (x.drop (k + 1)) && arePaths l)) (some false) rfl ?_ ?_).trans ?_
    · intro rec'
      simp [hlen, W_n1 hk2]
      exact hr ()
    · intro rec' j q hq hj
      have hq' := take_at hq
      have hj' : j < k := by omega
      simp [hj', getZ_at hq', getZ_at hp, W_n1 (show j ≤ 9223372036854775806 by omega), cnd_if]
      by_cases e1 : q.path = p.path <;> by_cases e2 : q.colour = p.colour <;> simp [e1, e2, noDup]
    · generalize (x.take k).all (noDup p) = A
      cases A <;> simp
theorem iAreLamps_v (l : List Path) (x : List Lamp) (h : Sm l) (hx : Sm x) : S_iAreLamps l x = some (areLamps l x) := by
  unfold S_iAreLamps areLamps
  simp [iArePaths_v l h]
  have hx' := hx
  unfold Sm at hx'
  cases hp : arePaths l with
  | false => simp
  | true =>
  simp
  refine (iter_list0 x (by omega) (fun k (_ : Unit) => (l, x, x, (x.length : Int), (k : Int))) () (fun s k _ => some (goL l x k s)) rfl ?_ ?_).trans rfl
  · intro rec _
    simp [goL]
  · intro rec k p _ hp hk hr
    simp only [Int.natCast_succ] at hr
    have hk2 : k ≤ 9223372036854775806 := by omega
    simp [hk, getZ_at hp, iFindPath_v l _ h, goL, lampOk]
    by_cases c1 : findPath l p.path < 0
    · simp [c1]
    simp only [c1, decide_false, cnd_ff, Bool.not_false, Bool.true_and]
    have hlen : (x.take k).length = k := by rw [List.length_take]; omega
    generalize hI : iter (_ : ((List Path × List Lamp × List Lamp × Int × Int × List Lamp × Int × Int) × Lamp → Option Bool) → _ → Option Bool) NN _ = I
    have hI' : I = if (x.take k).all (noDup p) = true then some (goL l x (k + 1) (x.drop (k + 1))) else some false := by
      rw [← hI]
      refine all_loop (x.take k) (noDup p) (by omega) (fun j => ((l, x, x, (x.length : Int), (k : Int), x.take k, ((x.take k).length : Int), (j : Int)), p)) _ _ (by simp) ?_ ?_
      · intro rec'
        simp [hlen, W_n1 hk2]
        exact hr ()
      · intro rec' j q hq hj
        have hj' : j < k := by omega
        simp [hlen, hj', getZ_at hq, W_n1 (show j ≤ 9223372036854775806 by omega), cnd_if]
        by_cases e1 : p.path = q.path <;> by_cases e2 : p.colour = q.colour <;> simp [e1, e2, noDup, show k ≤ x.length by omega]
        all_goals first | done | (intro h1; exact absurd h1.symm e1) | grind
    rw [hI']
    generalize (x.take k).all (noDup p) = A
    by_cases e0 : p.colour = 0
    · simp [e0, inR, show k ≤ x.length by omega]
      cases A <;> simp
    · by_cases e1 : p.colour = 1
      · simp [e1, inR, show k ≤ x.length by omega]
        cases A <;> simp
      · rw [show inR p.colour 0 1 = false by simp [inR]; omega]
        simp [e0, e1, cnd_if]
def badLamp (q : Lamp) : Bool := q.colour == 0 && q.broken
def anyBad (x : List Lamp) : Bool := x.any badLamp
def mode (l : List Path) (x : List Lamp) (p : Bool) : Int := if p = false then 2 else if anyBad x then 1 else if areLamps l x then 0 else 1
theorem sModeFor_v (l : List Path) (x : List Lamp) (p : Bool) (h : Sm l) (hx : Sm x) : S_sModeFor l x p = some (mode l x p) := by
  unfold S_sModeFor mode
  have hx' := hx
  unfold Sm at hx'
  cases p with
  | false => rfl
  | true =>
  simp
  refine (all_loop x (fun q => !badLamp q) (by omega) (fun k => (l, x, (k : Int))) (some (if areLamps l x then 0 else 1)) (some 1) rfl ?_ ?_).trans ?_
  · intro rec
    simp [sAreLamps_v l x h hx]
    cases areLamps l x <;> rfl
  · intro rec k q hq hk
    simp [hk, getZ_at hq, W_n1 (show k ≤ 9223372036854775806 by omega), cnd_if]
    by_cases e1 : q.colour = 0 <;> cases e2 : q.broken <;> simp [e1, e2, badLamp]
  · have hB : anyBad x = !x.all (fun q => !badLamp q) := by rw [List.not_all_eq_any_not]; simp [anyBad]
    generalize x.all (fun q => !badLamp q) = A at hB ⊢
    rw [hB]
    cases A <;> simp
theorem iModeFor_v (l : List Path) (x : List Lamp) (p : Bool) (h : Sm l) (hx : Sm x) : S_iModeFor l x p = some (mode l x p) := by
  unfold S_iModeFor mode
  have hx' := hx
  unfold Sm at hx'
  cases p with
  | false => rfl
  | true =>
  have key : S_slices_ContainsFunc_loop_example_g03006_impl_Lamp_loop_example_g03006_impl_Lamp x = some (anyBad x) := by
    unfold S_slices_ContainsFunc_loop_example_g03006_impl_Lamp_loop_example_g03006_impl_Lamp S_slices_IndexFunc_loop_example_g03006_impl_Lamp_loop_example_g03006_impl_Lamp S_iModeFor_1
    simp
    generalize hI : iter (_ : (List Lamp × Unit × Int × Int → Option Int) → _ → Option Int) NN _ = I
    have hI' : I = match x.findIdx? badLamp with | some i => some (i : Int) | none => some (-1) := by
      rw [← hI]
      refine find_loop x badLamp (by omega) (fun k => (x, (), (x.length : Int), (k : Int))) (fun k => some (k : Int)) (some (-1)) rfl ?_ ?_
      · intro rec; simp
      · intro rec k q hq hk
        simp [hk, getZ_at hq, W_n1 (show k ≤ 9223372036854775806 by omega), cnd_if]
        by_cases e1 : q.colour = 0 <;> cases e2 : q.broken <;> simp [e1, e2, badLamp]
    rw [hI']
    have hB : anyBad x = (x.findIdx? badLamp).isSome := by rw [findIdx_some]; rfl
    rw [hB]
    cases x.findIdx? badLamp <;> simp
  simp [iAreLamps_v l x h hx, key]
  cases areLamps l x <;> cases anyBad x <;> rfl
def lightsNow (t : Town) : List Int := if mode t.paths t.lamps t.power = 0 then lightsOf t.paths t.control else t.paths.map fun _ => 0
theorem sLightsNow_v (t : Town) (h : SmTown t) : S_sLightsNow t = some (lightsNow t) := by
  obtain ⟨h0, h1, h2, h3, h4⟩ := h
  have e1 : S_sModeOf t = some (mode t.paths t.lamps t.power) := by unfold S_sModeOf; simp [sModeFor_v _ _ _ h0 h3]
  unfold S_sLightsNow lightsNow
  simp only [rws_path, rws_want, rws_lamp, rws_i, rws_note_ss, rws_note_so, rws_note_oo, eta_Control, eta_Town, e1, bnd_some, bnd_id', sLightsOf_v _ _ h0 h1, sl33All_v t 0 h0, cnd_if, beq_iff_eq]
  split <;> rfl
theorem iLightsNow_v (t : Town) (h : SmTown t) : S_iLightsNow t = some (lightsNow t) := by
  obtain ⟨h0, h1, h2, h3, h4⟩ := h
  have e1 : S_iModeOf t = some (mode t.paths t.lamps t.power) := by unfold S_iModeOf; simp [iModeFor_v _ _ _ h0 h3]
  unfold S_iLightsNow lightsNow
  simp only [rws_path, rws_want, rws_lamp, rws_i, rws_note_ss, rws_note_so, rws_note_oo, eta_Control, eta_Town, e1, bnd_some, bnd_id', iLightsOf_v _ _ h0 h1, iall_v _ 0 h0, cnd_if, bne_iff_ne]
  by_cases c : mode t.paths t.lamps t.power = 0 <;> simp [c]
def clear2 (x q : Path × Int) : Bool := !(x.2 != 0 && q.2 != 0 && conflict x.1 q.1)
def goS (z : List (Path × Int)) : Nat → List (Path × Int) → Bool
  | _, [] => true
  | k, x :: r => inR x.2 0 2 && (z.take k).all (clear2 x) && goS z (k + 1) r
def isSafe (l : List Path) (v : List Int) : Bool := arePaths l && decide (v.length = l.length) && goS (l.zip v) 0 (l.zip v)
theorem zip_at {l : List Path} {v : List Int} {k : Nat} {x : Path × Int} (h : (l.zip v)[k]? = some x) : l[k]? = some x.1 ∧ v[k]? = some x.2 := by
  rw [List.getElem?_zip_eq_some] at h
  exact h
theorem sIsSafeLights_v (l : List Path) (v : List Int) (h : Sm l) : S_sIsSafeLights l v = some (isSafe l v) := by
  have hl := h
  unfold Sm at hl
  unfold S_sIsSafeLights isSafe
  simp only [rws_path, rws_i, len_path, len_i, sArePaths_v l h, bnd_some]
  cases hp : arePaths l with
  | false => simp
  | true =>
  by_cases hn : v.length = l.length
  · have hz : (l.zip v).length = l.length := by rw [List.length_zip]; omega
    rw [show (((v.length : Nat) : Int) != ((l.length : Nat) : Int)) = false by simp [hn]]
    simp [hn]
    refine (iter_list0 (l.zip v) (by omega) (fun k (_ : Unit) => (l, v, (k : Int))) () (fun s k _ => some (goS (l.zip v) k s)) rfl ?_ ?_).trans rfl
    · intro rec _
      simp [goS, hz]
    · intro rec k x _ hx hk hr
      obtain ⟨x1, x2⟩ := zip_at hx
      have hr' := hr ()
      simp only [Int.natCast_succ] at hr'
      have hk' : k < l.length := by omega
      have hlen : ((l.zip v).take k).length = k := by rw [List.length_take]; omega
      simp [hk', getZ_at x2, sl1In_r, goS]
      cases inR x.2 0 2 with
      | false => simp
      | true =>
      simp
      refine (all_loop ((l.zip v).take k) (clear2 x) (by omega) (fun j => (l, v, (k : Int), (j : Int))) (some (goS (l.zip v) (k + 1) ((l.zip v).drop (k + 1)))) (some false) rfl ?_ ?_).trans ?_
      · intro rec'
        simp [hlen, W_n1 (show k ≤ 9223372036854775806 by omega), hr']
      · intro rec' j y hy hj
        obtain ⟨y1, y2⟩ := zip_at (take_at' hy)
        have hj' : j < k := by omega
        simp [hj', getZ_at x2, getZ_at y2, getZ_at x1, getZ_at y1, sConflict_v, W_n1 (show j ≤ 9223372036854775806 by omega), clear2, cnd_if]
        by_cases c1 : x.2 = 0 <;> by_cases c2 : y.2 = 0 <;> cases c3 : conflict x.1 y.1 <;> simp [c1, c2, c3]
      · generalize ((l.zip v).take k).all (clear2 x) = A
        cases A <;> simp
  · rw [show (((v.length : Nat) : Int) != ((l.length : Nat) : Int)) = true by simp; omega]
    simp [hn]
theorem iIsSafeLights_v (l : List Path) (v : List Int) (h : Sm l) : S_iIsSafeLights l v = some (isSafe l v) := by
  have hl := h
  unfold Sm at hl
  unfold S_iIsSafeLights isSafe
  simp only [rws_path, rws_i, len_path, len_i, iArePaths_v l h, bnd_some]
  cases hp : arePaths l with
  | false => simp
  | true =>
  by_cases hn : v.length = l.length
  · have hz : (l.zip v).length = l.length := by rw [List.length_zip]; omega
    rw [show (((v.length : Nat) : Int) != ((l.length : Nat) : Int)) = false by simp [hn]]
    simp [hn]
    refine (iter_list0 (l.zip v) (by omega) (fun k (_ : Unit) => (l, v, l, (l.length : Int), (k : Int))) () (fun s k _ => some (goS (l.zip v) k s)) rfl ?_ ?_).trans rfl
    · intro rec _
      simp [goS, hz]
    · intro rec k x _ hx hk hr
      obtain ⟨x1, x2⟩ := zip_at hx
      have hr' := hr ()
      simp only [Int.natCast_succ] at hr'
      have hk' : k < l.length := by omega
      have hkl : k ≤ l.length := by omega
      have hlen : ((l.zip v).take k).length = k := by rw [List.length_take]; omega
      have hlen2 : (l.take k).length = k := by rw [List.length_take]; omega
      simp [hk', hkl, getZ_at x1, getZ_at x2, iInRange_r, goS]
      cases inR x.2 0 2 with
      | false => simp
      | true =>
      simp
      refine (all_loop ((l.zip v).take k) (clear2 x) (by omega) (fun j => ((l, v, (k : Int), l, (l.length : Int), (k : Int), l.take k, ((l.take k).length : Int), (j : Int)), x.1)) (some (goS (l.zip v) (k + 1) ((l.zip v).drop (k + 1)))) (some false) (by simp; omega) ?_ ?_).trans ?_
      · intro rec'
        simp [hlen, hlen2, W_n1 (show k ≤ 9223372036854775806 by omega), hr']
      · intro rec' j y hy hj
        obtain ⟨y1, y2⟩ := zip_at (take_at' hy)
        have hj' : j < k := by omega
        have y3 : (l.take k)[j]? = some y.1 := by rw [List.getElem?_take, if_pos hj']; exact y1
        simp [hlen2, hj', getZ_at x2, getZ_at y2, getZ_at y3, iConflict_v, W_n1 (show j ≤ 9223372036854775806 by omega), clear2, cnd_if, hkl]
        by_cases c1 : x.2 = 0 <;> by_cases c2 : y.2 = 0 <;> cases c3 : conflict x.1 y.1 <;> simp [c1, c2, c3]
      · generalize ((l.zip v).take k).all (clear2 x) = A
        cases A <;> simp
  · rw [show (((v.length : Nat) : Int) != ((l.length : Nat) : Int)) = true by simp; omega]
    simp [hn]
def wantOk (l : List Path) (x : Want) : Bool := !decide (findPath l x.path < 0) && inR x.wait 0 100000
def goW (l : List Path) : Option Int → List Want → Bool
  | _, [] => true
  | pv, x :: r => wantOk l x && later pv x.path && goW l (some x.path) r
def areWants (l : List Path) (w : List Want) : Bool := arePaths l && goW l none w
def prevW (l : List Want) (k : Nat) : Option Int := if k = 0 then none else (l[k - 1]?).map (·.path)
theorem prevW_succ {l : List Want} {k : Nat} {x : Want} (h : l[k]? = some x) : prevW l (k + 1) = some x.path := by
  unfold prevW
  simp [h]
theorem sAreWants_vL (l : List Path) (w : List Want) (hl : Sm l) (h : w.length ≤ 2097152) : S_sAreWants l w = some (areWants l w) := by
  unfold S_sAreWants areWants
  simp
  refine (iter_list0 w (by omega) (fun k (_ : Unit) => (l, w, (k : Int))) () (fun s k _ => some (arePaths l && goW l (prevW w k) s)) rfl ?_ ?_).trans ?_
  · intro rec _
    simp [goW, sArePaths_v l hl]
  · intro rec k x _ hx hk hr
    have hr' := hr ()
    simp only [Int.natCast_succ] at hr'
    simp [hk, getZ_at hx, sFindPath_v _ _ hl, sl1In_r, W_n1 (show k ≤ 9223372036854775806 by omega), goW, wantOk]
    by_cases hf : findPath l x.path < 0
    · simp [hf]
    cases inR x.wait 0 100000 with
    | false => simp [hf]
    | true =>
      simp [hf]
      by_cases h0 : k = 0
      · subst h0
        have hr'' : rec (l, w, 1) = some (arePaths l && goW l (some x.path) (List.drop 1 w)) := by simpa [prevW_succ hx] using hr'
        simp [hr'', prevW, later]
      · have hz : w[k - 1]? = some w[k - 1] := List.getElem?_eq_getElem (by omega)
        have hk1 : W ((k : Int) - 1) = ((k - 1 : Nat) : Int) := by rw [W_id (by omega) (by omega)]; omega
        rw [show prevW w k = some (w[k - 1]).path by unfold prevW; simp [h0, hz]]
        simp [show 0 < k by omega, hk1, getZ_at hz, hr', prevW_succ hx, later, cnd_if]
        by_cases h1 : x.path ≤ (w[k - 1]).path
        · simp [h1, show ¬ ((w[k - 1]).path < x.path) by omega]
        · simp [h1, show (w[k - 1]).path < x.path by omega]
  · simp [prevW]
theorem sAreWants_v (l : List Path) (w : List Want) (hl : Sm l) (h : Sm w) : S_sAreWants l w = some (areWants l w) := sAreWants_vL l w hl (by unfold Sm at h; omega)
theorem iAreWants_vL (l : List Path) (w : List Want) (hl : Sm l) (h : w.length ≤ 2097152) : S_iAreWants l w = some (areWants l w) := by
  unfold S_iAreWants areWants
  simp [iArePaths_v l hl]
  cases arePaths l with
  | false => rfl
  | true =>
  simp
  refine (iter_list0 w (by omega) (fun k (_ : Unit) => (l, w, w, (w.length : Int), (k : Int))) () (fun s k _ => some (goW l (prevW w k) s)) rfl ?_ ?_).trans ?_
  · intro rec _
    simp [goW]
  · intro rec k x _ hx hk hr
    have hr' := hr ()
    simp only [Int.natCast_succ] at hr'
    simp [hk, getZ_at hx, iFindPath_v _ _ hl, iInRange_r, W_n1 (show k ≤ 9223372036854775806 by omega), goW, wantOk]
    by_cases hf : findPath l x.path < 0
    · simp [hf]
    cases inR x.wait 0 100000 with
    | false => simp [hf]
    | true =>
      simp [hf]
      by_cases h0 : k = 0
      · subst h0
        have hr'' : rec (l, w, w, (w.length : Int), 1) = some (goW l (some x.path) (List.drop 1 w)) := by simpa [prevW_succ hx] using hr'
        simp [hr'', prevW, later]
      · have hz : w[k - 1]? = some w[k - 1] := List.getElem?_eq_getElem (by omega)
        have hk1 : W ((k : Int) - 1) = ((k - 1 : Nat) : Int) := by rw [W_id (by omega) (by omega)]; omega
        rw [show prevW w k = some (w[k - 1]).path by unfold prevW; simp [h0, hz]]
        simp [show 0 < k by omega, hk1, getZ_at hz, hr', prevW_succ hx, later, cnd_if]
        by_cases h1 : x.path ≤ (w[k - 1]).path
        · simp [h1, show ¬ ((w[k - 1]).path < x.path) by omega]
        · simp [h1, show (w[k - 1]).path < x.path by omega]
  · simp [prevW]
theorem iAreWants_v (l : List Path) (w : List Want) (hl : Sm l) (h : Sm w) : S_iAreWants l w = some (areWants l w) := iAreWants_vL l w hl (by unfold Sm at h; omega)
def isBus (l : List Path) (id : Int) : Bool := !decide (findPath l id < 0) && (pathAt l id).kind == 3
def isPrio (l : List Path) (x : Prio) : Bool := arePaths l && (decide (x = ⟨0, 0⟩) || (isBus l x.path && inR x.left 1 20))
theorem eqB_prio0 (p : Prio) : eqB [I p.path, I p.left] [I 0, I 0] = decide (p = ⟨0, 0⟩) := by
  cases p; simp [eqB, eqV]; grind
theorem sIsPrio_v (l : List Path) (x : Prio) (hl : Sm l) : S_sIsPrio l x = some (isPrio l x) := by
  unfold S_sIsPrio isPrio isBus
  simp only [rws_path, eqB_prio0, sArePaths_v l hl, sFindPath_v _ _ hl, bnd_some, geti_path, sl1In_r, cnd_if]
  by_cases h0 : x = ⟨0, 0⟩
  · simp [h0]
  · simp only [h0, decide_false, Bool.false_or, Bool.false_eq_true, if_false]
    by_cases hf : findPath l x.path < 0
    · simp [hf, show ¬ (findPath l x.path ≥ 0) by omega]
    · simp [hf, show (0 : Int) ≤ findPath l x.path by omega, getZ_find hf]
      cases arePaths l <;> simp
      by_cases hk : (pathAt l x.path).kind = 3 <;> simp [hk]
theorem iIsPrio_v (l : List Path) (x : Prio) (hl : Sm l) : S_iIsPrio l x = some (isPrio l x) := by
  unfold S_iIsPrio isPrio isBus S_iisBus
  simp only [rws_path, eqB_prio0, iArePaths_v l hl, iFindPath_v _ _ hl, bnd_some, geti_path, iInRange_r, cnd_if]
  by_cases h0 : x = ⟨0, 0⟩
  · simp [h0]
    cases arePaths l <;> simp
  · simp only [h0, decide_false, Bool.false_or, Bool.false_eq_true, if_false]
    by_cases hf : findPath l x.path < 0
    · simp [hf, show ¬ (findPath l x.path ≥ 0) by omega]
    · simp [hf, show (0 : Int) ≤ findPath l x.path by omega, getZ_find hf]
      cases arePaths l <;> simp
      by_cases hk : (pathAt l x.path).kind = 3 <;> simp [hk]
def goU (p : List Path) : List Note → Int
  | [] => -1
  | x :: r => if isSafe p x.lights = true then goU p r else x.second
def firstUnsafe (p : List Path) (l : List Note) : Int := if isRecord l = true then goU p l else -1
theorem sFirstUnsafe_v (p : List Path) (l : List Note) (hp : Sm p) (h : Sm l ∧ ∀ y ∈ l, SmNote y) : S_sFirstUnsafe p l = some (firstUnsafe p l) := by
  have h1 := h.1
  unfold Sm at h1
  unfold S_sFirstUnsafe firstUnsafe
  simp
  refine (iter_list0 l (by omega) (fun k (_ : Unit) => (p, l, (k : Int))) () (fun s _ _ => some (if isRecord l = true then goU p s else -1)) rfl ?_ ?_).trans rfl
  · intro rec _
    simp [goU]
  · intro rec k x _ hx hk hr
    have hr' := hr ()
    simp only [Int.natCast_succ] at hr'
    simp [hk, getZ_at hx, sIsRecord_v l h, sIsSafeLights_v _ _ hp, W_n1 (show k ≤ 9223372036854775806 by omega), hr', goU, cnd_if]
    cases isRecord l <;> simp
    cases isSafe p x.lights <;> simp
theorem iFirstUnsafe_v (p : List Path) (l : List Note) (hp : Sm p) (h : Sm l ∧ ∀ y ∈ l, SmNote y) : S_iFirstUnsafe p l = some (firstUnsafe p l) := by
  have h1 := h.1
  unfold Sm at h1
  unfold S_iFirstUnsafe firstUnsafe
  simp [iIsRecord_v l h]
  cases isRecord l with
  | false => rfl
  | true =>
  simp
  refine (iter_list0 l (by omega) (fun k (_ : Unit) => (p, l, (l.length : Int), (k : Int))) () (fun s _ _ => some (goU p s)) rfl ?_ ?_).trans rfl
  · intro rec _
    simp [goU]
  · intro rec k x _ hx hk hr
    have hr' := hr ()
    simp only [Int.natCast_succ] at hr'
    simp [hk, getZ_at hx, iIsSafeLights_v _ _ hp, W_n1 (show k ≤ 9223372036854775806 by omega), hr', goU, cnd_if]
    cases isSafe p x.lights <;> simp
def lastSec (l : List Note) : Int := match l.getLast? with | some e => e.second | none => 0
def isTown (t : Town) : Bool :=
  isControl t.paths t.control && areWants t.paths t.wants && isPrio t.paths t.prio && areLamps t.paths t.lamps && isRecord t.record && !t.record.isEmpty &&
  decide (firstUnsafe t.paths t.record = -1) && decide (firstLen t.record = t.paths.length) && decide (lastSec t.record ≤ t.now) && inR t.books 0 1000 && inR t.now 0 1000000
theorem last_at {l : List Note} (h : l ≠ []) : ∃ e, l[l.length - 1]? = some e ∧ lastSec l = e.second ∧ e ∈ l := by
  refine ⟨l.getLast h, ?_, ?_, List.getLast_mem h⟩
  · rw [List.getLast_eq_getElem h]
    exact List.getElem?_eq_getElem _
  · unfold lastSec
    rw [List.getLast?_eq_some_getLast h]
theorem sIsTown_v (t : Town) (h : SmTown t) : S_sIsTown t = some (isTown t) := by
  obtain ⟨h0, h1, h2, h3, h4⟩ := h
  have h5 := h4.1
  unfold Sm at h5
  unfold S_sIsTown isTown
  simp only [rws_path, rws_i, rws_want, rws_lamp, rws_note_ss, eta_Control, len_note, len_i, len_path, len0, sIsControl_v _ _ h0 h1, sAreWants_v _ _ h0 h2, sIsPrio_v _ _ h0, sAreLamps_v _ _ h0 h3, sIsRecord_v _ h4, sFirstUnsafe_v _ _ h0 h4, sl1In_r, bnd_some]
  cases isControl t.paths t.control <;> simp
  cases areWants t.paths t.wants <;> simp
  cases isPrio t.paths t.prio <;> simp
  cases areLamps t.paths t.lamps <;> simp
  cases hR : isRecord t.record <;> simp
  cases he : t.record.isEmpty <;> simp
  have hne : t.record ≠ [] := by intro e; rw [e] at he; cases he
  obtain ⟨e, e1, e2, e3⟩ := last_at hne
  have hpos := List.length_pos_iff.2 hne
  have hk1 : W ((t.record.length : Int) - 1) = ((t.record.length - 1 : Nat) : Int) := by rw [W_id (by omega) (by omega)]; omega
  rw [hk1, getZ_at e1, e2, (isRecord_len hR e e3).1]
  by_cases c1 : firstUnsafe t.paths t.record = -1 <;> simp [c1, cnd_if]
  by_cases c2 : firstLen t.record = t.paths.length
  case neg =>
    simp [c2]
    intro hc
    omega
  simp only [c2]
  by_cases c3 : e.second ≤ t.now <;> simp [c3]
  cases inR t.books 0 1000 <;> simp
theorem iIsTown_v (t : Town) (h : SmTown t) : S_iIsTown t = some (isTown t) := by
  obtain ⟨h0, h1, h2, h3, h4⟩ := h
  have h5 := h4.1
  unfold Sm at h5
  unfold S_iIsTown isTown
  simp only [rws_path, rws_i, rws_want, rws_lamp, rws_note_ss, eta_Control, len_note, len_i, len_path, iIsControl_v _ _ h0 h1, iAreWants_v _ _ h0 h2, iIsPrio_v _ _ h0, iAreLamps_v _ _ h0 h3, iIsRecord_v _ h4, iFirstUnsafe_v _ _ h0 h4, iInRange_r, bnd_some]
  cases isControl t.paths t.control <;> simp
  cases areWants t.paths t.wants <;> simp
  cases isPrio t.paths t.prio <;> simp
  cases areLamps t.paths t.lamps <;> simp
  cases hR : isRecord t.record <;> simp
  by_cases c1 : firstUnsafe t.paths t.record = -1 <;> simp [c1, cnd_if]
  cases he : t.record.isEmpty with
  | true =>
    have : t.record = [] := List.isEmpty_iff.1 he
    simp [this]
  | false =>
  have hne : t.record ≠ [] := by intro e; rw [e] at he; cases he
  obtain ⟨e, e1, e2, e3⟩ := last_at hne
  have hpos := List.length_pos_iff.2 hne
  have hk1 : W ((t.record.length : Int) - 1) = ((t.record.length - 1 : Nat) : Int) := by rw [W_id (by omega) (by omega)]; omega
  have hz : t.record[0]? = some t.record[0] := List.getElem?_eq_getElem hpos
  simp only [hpos, decide_true, cnd_tt, getZ0 hz, hk1, getZ_at e1, e2, ← firstLen_at hz]
  by_cases c2 : firstLen t.record = t.paths.length
  case neg =>
    simp [c2]
    intro hc
    omega
  simp only [c2]
  by_cases c3 : e.second ≤ t.now <;> simp [c3]
  cases inR t.books 0 1000 <;> simp
def goAt (s : Int) : List Note → Nat → Int → Int
  | [], _, a => a
  | x :: r, k, a => goAt s r (k + 1) (if x.second ≤ s then (k : Int) else a)
def entryAt (l : List Note) (s : Int) : Int := if isRecord l = true then goAt s l 0 (-1) else -1
theorem goAt_lt {s : Int} : ∀ (l : List Note) (k : Nat) (a : Int), goAt s l k a = a ∨ ∃ i, i < l.length ∧ goAt s l k a = ((k + i : Nat) : Int)
  | [], k, a => .inl rfl
  | x :: r, k, a => by
    rw [goAt]
    rcases goAt_lt (s := s) r (k + 1) (if x.second ≤ s then (k : Int) else a) with h | ⟨i, h1, h2⟩
    · rw [h]
      split
      · exact .inr ⟨0, by simp, by simp⟩
      · exact .inl rfl
    · exact .inr ⟨i + 1, by simp; omega, by rw [h2]; congr 1; omega⟩
theorem entryAt_cases (l : List Note) (s : Int) : entryAt l s = -1 ∨ ∃ (i : Nat) (x : Note), l[i]? = some x ∧ entryAt l s = (i : Int) ∧ isRecord l = true := by
  unfold entryAt
  cases hR : isRecord l with
  | false => exact .inl (by simp)
  | true =>
    simp only [if_true]
    rcases goAt_lt (s := s) l 0 (-1) with h | ⟨i, h1, h2⟩
    · exact .inl h
    · exact .inr ⟨i, l[i], List.getElem?_eq_getElem h1, by rw [h2]; simp, trivial⟩
theorem nilK_same {β : Type} (xs : List (List AV)) (x y : Option β) (h : xs = [] → x = y) : nilK xs x y = y := by
  unfold nilK
  split
  · unfold bothK
    have := h rfl
    rw [if_pos this, this]
  · rfl
theorem slices_Clone_int_int_v (l : List Int) (h : Sm l) : S_slices_Clone_int_int l = some l := by
  unfold Sm at h
  unfold S_slices_Clone_int_int
  have e : ifA (((((List.length ([] : List (List AV))) + (List.length (l.map iR.enc))) * 8) ≤ 140737488355328) ∧ (((List.length ([] : List (List AV))) + (List.length (l.map iR.enc))) ≤ 1152921504606846976)) (rws iR (List.map clrs (l.map iR.enc)) (fun (l1 : (List Int)) => (some l1))) = some l := by
    rw [ifA_pos (by simp; omega), clrs_i, rws_i]
  rw [e]
  refine nilK_same _ _ _ fun h0 => ?_
  have : l = [] := by cases l with | nil => rfl | cons a l => cases h0
  rw [this]
def entry (l : List Note) (s : Int) : Option Note := if entryAt l s < 0 then none else l[(entryAt l s).toNat]?
def shownAt (l : List Note) (s : Int) : List Int × Bool := match entry l s with | some e => (e.lights, true) | none => ([], false)
theorem entry_cases (l : List Note) (s : Int) : (entry l s = none ∧ entryAt l s = -1) ∨ ∃ (i : Nat) (x : Note), l[i]? = some x ∧ entryAt l s = (i : Int) ∧ entry l s = some x ∧ isRecord l = true := by
  unfold entry
  rcases entryAt_cases l s with h | ⟨i, x, h1, h2, h3⟩
  · rw [h]; exact .inl ⟨rfl, rfl⟩
  · rw [h2]
    exact .inr ⟨i, x, h1, rfl, by rw [if_neg (by omega), Int.toNat_natCast, h1], h3⟩
def recordTrue (t : Town) : Bool := (shownAt t.record t.now).2 && decide ((shownAt t.record t.now).1 = lightsNow t)
theorem shownAt_sm {l : List Note} (s : Int) (h : Sm l ∧ ∀ y ∈ l, SmNote y) : Sm (shownAt l s).1 := by
  unfold shownAt
  rcases entry_cases l s with ⟨h1, h2⟩ | ⟨i, x, h1, h2, h3, _⟩
  · rw [h1]; unfold Sm; simp
  · rw [h3]; exact h.2 x (mem_at h1)
/-- rounds that count down -/
theorem iter_downN {V β : Type} {F : (V → Option β) → V → Option β} (st : Nat → V) (G : Nat → Option β) (B : Nat) (h0 : ∀ rec, F rec (st 0) = G 0)
    (h1 : ∀ rec k, k < B → rec (st k) = G k → F rec (st (k + 1)) = G (k + 1)) : ∀ n k, k ≤ B → k < n → iter F n (st k) = G k
  | 0, k, _, h => by omega
  | n + 1, 0, _, _ => by rw [iter_succ]; exact h0 _
  | n + 1, k + 1, hk, h => by
    rw [iter_succ]
    exact h1 _ k (by omega) (iter_downN st G B h0 h1 n k (by omega) (by omega))
theorem iter_down {V β : Type} {F : (V → Option β) → V → Option β} (st : Nat → V) (G : Nat → Option β) (k : Nat) (hk : k ≤ 4611686018427387903) {v : V} (hv : v = st k) (h0 : ∀ rec, F rec (st 0) = G 0)
    (h1 : ∀ rec j, j < k → rec (st j) = G j → F rec (st (j + 1)) = G (j + 1)) : iter F NN v = G k := by
  rw [hv]
  exact iter_downN st G k h0 h1 NN k (Nat.le_refl _) (NN_big hk)
def lightShown (l : List Note) (i s : Int) : Int := match entry l s with | some e => lightOf e i | none => -1
theorem lightOf_lt {e : Note} {i : Int} (h : lightOf e i ≠ -1) : ∃ m : Nat, i = (m : Int) ∧ m < e.lights.length := by
  unfold lightOf at h
  split at h
  · rename_i h0
    refine ⟨i.toNat, by omega, ?_⟩
    split at h
    · rename_i v hv
      exact (List.getElem?_eq_some_iff.1 hv).1
    · exact absurd rfl h
  · exact absurd rfl h
theorem lightOf_at {e : Note} {m : Nat} {v : Int} (h : e.lights[m]? = some v) : lightOf e (m : Int) = v := by
  unfold lightOf
  rw [if_pos (by omega), Int.toNat_natCast, h]
def back (l : List Note) (i : Int) : Nat → Nat
  | 0 => 0
  | k + 1 => match l[k]? with
    | some e => if lightOf e i = 1 then back l i k else k + 1
    | none => k + 1
def secAt (l : List Note) (k : Nat) : Int := match l[k]? with | some e => e.second | none => 0
def greenSince (l : List Note) (i s : Int) : Int := if lightShown l i s = 1 then W (s - secAt l (back l i (entryAt l s).toNat)) else -1
theorem back_le (l : List Note) (i : Int) : ∀ k, back l i k ≤ k
  | 0 => Nat.le_refl _
  | k + 1 => by
    rw [back]
    have := back_le l i k
    split
    · split <;> omega
    · omega
/-! reports -/
def goO (a : Path) : List (Path × Int) → Int → Int
  | [], o => o
  | x :: r, o => goO a r (if o = 0 ∧ x.2 ≠ 0 ∧ conflict a x.1 = true then x.1.id else o)
theorem town_len {t : Town} (h : isTown t = true) {e : Note} (he : e ∈ t.record) : e.lights.length = t.paths.length ∧ ∀ v ∈ e.lights, 0 ≤ v := by
  simp only [isTown, Bool.and_eq_true, decide_eq_true_eq] at h
  obtain ⟨⟨⟨⟨⟨⟨⟨⟨⟨⟨h1, h2⟩, h3⟩, h4⟩, h5⟩, h6⟩, h7⟩, h8⟩, h9⟩, h10⟩, h11⟩ := h
  have := isRecord_len h5 e he
  exact ⟨this.1.trans h8, this.2.2.2⟩
def brk (a : Lamp) (path colour : Int) : Bool := a.path == path && (a.colour == colour && a.broken)
def broken (x : List Lamp) (path colour : Int) : Bool := x.any fun a => brk a path colour
theorem any_loop {α V : Type} (l : List α) (p : α → Bool) (hl : l.length ≤ 1099511627776) (st : Nat → V) {F : (V → Option Bool) → V → Option Bool} {v : V} (hv : v = st 0)
    (h0 : ∀ rec, F rec (st l.length) = some false)
    (h1 : ∀ rec k x, l[k]? = some x → k < l.length → F rec (st k) = if p x = true then some true else rec (st (k + 1))) : iter F NN v = some (l.any p) := by
  refine (iter_list0 l (by omega) (fun k (_ : Unit) => st k) () (fun s _ _ => some (s.any p)) hv ?_ ?_).trans rfl
  · intro rec _; rw [h0]; rfl
  · intro rec k x _ hx hk hr
    rw [h1 rec k x hx hk, List.any_cons]
    cases p x with
    | true => simp
    | false => simpa using hr ()
def seen1 (x : List Lamp) (z : Path × Int) : Int := if (z.2 = 0 ∨ z.2 = 1) ∧ broken x z.1.id z.2 = true then -1 else z.2
def visible (l : List Path) (x : List Lamp) (v : List Int) : List Int := if v.length = l.length then (l.zip v).map (seen1 x) else []
def seenNow (t : Town) : List Int := if mode t.paths t.lamps t.power = 0 then visible t.paths t.lamps (lightsNow t) else t.paths.map fun _ => -1
theorem seenNow_sm (t : Town) (h : SmTown t) : Sm (seenNow t) := by
  have h0 := h.1
  unfold Sm seenNow visible at *
  split
  · split
    · simp; omega
    · simp
  · simpa using h0
def walk (l : List Path) (x : Int) : Bool := !decide (findPath l x < 0) && (pathAt l x).kind == 2
def leastGreen (l : List Path) (ids : List Int) : Int := if ids.all (fun x => !walk l x) = true then 5 else 7
def SmS (st : List (List Int)) : Prop := Sm st ∧ ∀ y ∈ st, Sm y
def cov (st : List (List Int)) (id : Int) : Bool := st.any fun s => has s id
def covers (l : List Path) (st : List (List Int)) : Bool := arePaths l && (st.all (together l) && l.all fun p => cov st p.id)
theorem appe_il (l : List (List Int)) (a : List Int) : l.map (rOne (rX .shr 1 iR)).enc ++ [[.slc .shr 1 (a.map iR.enc)]] = (l ++ [a]).map (rOne (rX .shr 1 iR)).enc := (List.map_append (f := (rOne (rX .shr 1 iR)).enc) (l₁ := l) (l₂ := [a])).symm
theorem len_e0 (x : List Int) : ((x.length : Int) == 0) = x.isEmpty := by
  cases x with
  | nil => rfl
  | cons a x => simp; omega
theorem clone_path (l : List Path) (h : Sm l) : S_slices_Clone_loop_example_g03006_impl_Path_loop_example_g03006_impl_Path l = some l := by
  unfold Sm at h
  unfold S_slices_Clone_loop_example_g03006_impl_Path_loop_example_g03006_impl_Path
  rw [nilK_same]
  · simp only [len_path, clrs_path, rws_path, List.length_nil]; rw [ifA_pos (by omega)]
  · intro h0; have : l = [] := by cases l with | nil => rfl | cons a l => cases h0
    subst this; simp
theorem clone_want (l : List Want) (h : Sm l) : S_slices_Clone_loop_example_g03006_impl_Want_loop_example_g03006_impl_Want l = some l := by
  unfold Sm at h
  unfold S_slices_Clone_loop_example_g03006_impl_Want_loop_example_g03006_impl_Want
  rw [nilK_same]
  · simp only [len_want, clrs_want, rws_want, List.length_nil]; rw [ifA_pos (by omega)]
  · intro h0; have : l = [] := by cases l with | nil => rfl | cons a l => cases h0
    subst this; simp
theorem clone_lamp (l : List Lamp) (h : Sm l) : S_slices_Clone_loop_example_g03006_impl_Lamp_loop_example_g03006_impl_Lamp l = some l := by
  unfold Sm at h
  unfold S_slices_Clone_loop_example_g03006_impl_Lamp_loop_example_g03006_impl_Lamp
  rw [nilK_same]
  · simp only [len_lamp, clrs_lamp, rws_lamp, List.length_nil]; rw [ifA_pos (by omega)]
  · intro h0; have : l = [] := by cases l with | nil => rfl | cons a l => cases h0
    subst this; simp
theorem sl14Copy_v (x : Control) (h : SmControl x) : S_sl14Copy x = some x := by
  obtain ⟨h1, h2⟩ := h
  unfold Sm at h1 h2
  unfold S_sl14Copy
  simp only [len_i, List.length_nil, clrs_i, rws_i]
  rw [ifA_pos (by omega), ifA_pos (by omega)]
theorem icloneControl_v (x : Control) (h : SmControl x) : S_icloneControl x = some x := by
  obtain ⟨h1, h2⟩ := h
  unfold S_icloneControl
  simp [slices_Clone_int_int_v _ h1, slices_Clone_int_int_v _ h2]
theorem appe_note {o p q : Own} (h0 : okO o p = true) (h1 : okO o q = true) (l : List Note) (a : Int) (b : List Int) (c : Int) {β : Type} (K : List Note → Option β) :
    rws (noteR o) (l.map (noteR p).enc ++ [[I a, .slc q 1 (b.map iR.enc), I c]]) K = K (l ++ [(⟨a, b, c⟩ : Note)]) :=
  (rws_app _ _ _ K).trans ((rws_note h0 l _).trans (row_note h1 a b c fun l' => K (l ++ l')))
@[simp] theorem appe_note_ss (l : List Note) (a : Int) (b : List Int) (c : Int) {β : Type} (K : List Note → Option β) : rws (noteR Own.shr) (l.map (noteR Own.shr).enc ++ [[I a, .slc Own.shr 1 (b.map iR.enc), I c]]) K = K (l ++ [(⟨a, b, c⟩ : Note)]) := appe_note (o := .shr) (p := .shr) (q := .shr) rfl rfl l a b c K
@[simp] theorem appe_note_so (l : List Note) (a : Int) (b : List Int) (c : Int) {β : Type} (K : List Note → Option β) : rws (noteR Own.shr) (l.map (noteR Own.shr).enc ++ [[I a, .slc Own.own 1 (b.map iR.enc), I c]]) K = K (l ++ [(⟨a, b, c⟩ : Note)]) := appe_note (o := .shr) (p := .shr) (q := .own) rfl rfl l a b c K
@[simp] theorem appe_note_oo (l : List Note) (a : Int) (b : List Int) (c : Int) {β : Type} (K : List Note → Option β) : rws (noteR Own.own) (l.map (noteR Own.own).enc ++ [[I a, .slc Own.own 1 (b.map iR.enc), I c]]) K = K (l ++ [(⟨a, b, c⟩ : Note)]) := appe_note (o := .own) (p := .own) (q := .own) rfl rfl l a b c K
@[simp] theorem appe_note_soo (l : List Note) (a : Int) (b : List Int) (c : Int) {β : Type} (K : List Note → Option β) : rws (noteR Own.shr) (l.map (noteR Own.own).enc ++ [[I a, .slc Own.own 1 (b.map iR.enc), I c]]) K = K (l ++ [(⟨a, b, c⟩ : Note)]) := appe_note (o := .shr) (p := .own) (q := .own) rfl rfl l a b c K
abbrev SmR (l : List Note) : Prop := Sm l ∧ ∀ y ∈ l, SmNote y
theorem sl27Copy_v (l : List Note) (h : SmR l) : S_sl27Copy l = some l := by
  obtain ⟨h1, h2⟩ := h
  unfold Sm at h1
  unfold S_sl27Copy
  simp only [rws_note_ss, rws_note_so, rws_note_oo, len_note]
  refine (mapG_loop l id (by omega) (fun k acc => (l, (acc, (k : Int)))) some rfl ?_ ?_).trans (by simp)
  · intro rec acc ha; simp
  · intro rec k x acc hx hk ha
    have hs := h2 x (mem_at hx)
    unfold SmNote Sm at hs
    simp [hk, getZ_at hx, W_n1 (show k ≤ 9223372036854775806 by omega), ha, show (k + 1) * 40 ≤ 140737488355328 by omega, show k ≤ 1152921504606846975 by omega, show x.lights.length * 8 ≤ 140737488355328 by omega, show x.lights.length ≤ 1152921504606846976 by omega]
theorem icloneRecord_v (l : List Note) (h : SmR l) : S_icloneRecord l = some l := by
  obtain ⟨h1, h2⟩ := h
  unfold Sm at h1
  unfold S_icloneRecord
  simp only [rws_note_ss, rws_note_so, rws_note_oo, len_note]
  refine (mapG_loop l id (by omega) (fun k acc => (acc, l, (l.length : Int), (k : Int))) some rfl ?_ ?_).trans (by simp)
  · intro rec acc ha; simp
  · intro rec k x acc hx hk ha
    simp [hk, getZ_at hx, slices_Clone_int_int_v _ (h2 x (mem_at hx)), W_n1 (show k ≤ 9223372036854775806 by omega), ha, show (k + 1) * 40 ≤ 140737488355328 by omega, show k ≤ 1152921504606846975 by omega]
theorem sl33Copy_v (t : Town) (h : SmTown t) : S_sl33Copy t = some t := by
  obtain ⟨h0, h1, h2, h3, h4⟩ := h
  unfold S_sl33Copy
  simp only [rws_i, eta_Control, sl14Copy_v _ h1, sl27Copy_v _ h4, bnd_some, rws_note_ss, rws_note_so, rws_note_oo, len_path, len_want, len_lamp, List.length_nil, clrs_path, clrs_want, clrs_lamp, rws_path, rws_want, rws_lamp, eta_Town]
  unfold Sm at h0 h2 h3
  rw [ifA_pos (by omega), ifA_pos (by omega), ifA_pos (by omega)]
theorem icloneTown_v (t : Town) (h : SmTown t) : S_icloneTown t = some t := by
  obtain ⟨h0, h1, h2, h3, h4⟩ := h
  unfold S_icloneTown
  simp only [clone_path _ h0, clone_want _ h2, clone_lamp _ h3, rws_i, eta_Control, icloneControl_v _ h1, bnd_some, rws_note_ss, rws_note_so, rws_note_oo, rws_path, rws_want, rws_lamp, rws_i, icloneRecord_v _ h4, eta_Town]
def lastSig (l : List Note) : Int := match l.getLast? with | some e => e.sig | none => 0
theorem last_get {l : List Note} {e : Note} (h : l.getLast? = some e) : l[l.length - 1]? = some e ∧ 0 < l.length := by
  cases l with
  | nil => cases h
  | cons a l => rw [List.getLast?_eq_getElem?] at h; exact ⟨h, by simp⟩
theorem sLastSeal_v (l : List Note) (h : SmR l) : S_sLastSeal l = some (lastSig l) := by
  have h1 := h.1
  unfold Sm at h1
  unfold S_sLastSeal lastSig
  simp only [len_note, geti_note_ss, geti_note_so, geti_note_oo]
  cases hl : l.getLast? with
  | none => have : l = [] := by simpa using hl
            subst this; rfl
  | some e =>
    obtain ⟨e1, e2⟩ := last_get hl
    have hk1 : W ((l.length : Int) - 1) = ((l.length - 1 : Nat) : Int) := by rw [W_id (by omega) (by omega)]; omega
    rw [hk1, getZ_at e1, show (((l.length : Nat) : Int) == 0) = false from beq_eq_false_iff_ne.2 (by omega), cnd_ff]
theorem iLastSeal_v (l : List Note) (h : SmR l) : S_iLastSeal l = some (lastSig l) := by
  have h1 := h.1
  unfold Sm at h1
  unfold S_iLastSeal lastSig
  simp only [len_note, geti_note_ss, geti_note_so, geti_note_oo]
  cases hl : l.getLast? with
  | none => have : l = [] := by simpa using hl
            subst this; rfl
  | some e =>
    obtain ⟨e1, e2⟩ := last_get hl
    have hk1 : W ((l.length : Int) - 1) = ((l.length - 1 : Nat) : Int) := by rw [W_id (by omega) (by omega)]; omega
    rw [hk1, getZ_at e1, show (((l.length : Nat) : Int) == 0) = false from beq_eq_false_iff_ne.2 (by omega), cnd_ff]
def entryOf (l : List Note) (s : Int) (v : List Int) : Note := ⟨s, v, sealOf (lastSig l) s v⟩
def addEntry (l : List Note) (s : Int) (v : List Int) : List Note × Bool := if isRecord (l ++ [entryOf l s v]) = true then (l ++ [entryOf l s v], true) else (l, false)
theorem smR_app {l : List Note} {e : Note} (h : SmR l) (hl : l.length ≤ 1000) (he : Sm e.lights) : SmR (l ++ [e]) := by
  refine ⟨by unfold Sm; simp; omega, fun y hy => ?_⟩
  rcases List.mem_append.1 hy with hy | hy
  · exact h.2 y hy
  · rw [List.mem_singleton] at hy
    subst hy
    exact he
theorem sAddEntry_v (l : List Note) (s : Int) (v : List Int) (h : SmR l) (hl : l.length ≤ 1000) (hv : Sm v) : S_sAddEntry l s v = some (addEntry l s v) := by
  have hv' := hv
  unfold Sm at hv'
  have ho : SmR (l ++ [(⟨s, v, sealOf (lastSig l) s v⟩ : Note)]) := smR_app h hl hv
  unfold S_sAddEntry addEntry entryOf
  simp [sl27Copy_v l h, sLastSeal_v l h, sSealOf_v _ s v hv, sIsRecord_v _ ho, show v.length * 8 ≤ 140737488355328 by omega, show v.length ≤ 1152921504606846976 by omega, show (l.length + 1) * 40 ≤ 140737488355328 by omega, show l.length ≤ 1152921504606846975 by omega]
  cases isRecord (l ++ [(⟨s, v, sealOf (lastSig l) s v⟩ : Note)]) <;> simp
theorem iAddEntry_v (l : List Note) (s : Int) (v : List Int) (h : SmR l) (hl : l.length ≤ 1000) (hv : Sm v) : S_iAddEntry l s v = some (addEntry l s v) := by
  have ho : SmR (l ++ [(⟨s, v, sealOf (lastSig l) s v⟩ : Note)]) := smR_app h hl hv
  unfold S_iAddEntry addEntry entryOf
  simp [icloneRecord_v l h, slices_Clone_int_int_v v hv, iLastSeal_v l h, iSealOf_v _ s v hv, iIsRecord_v _ ho, show (l.length + 1) * 40 ≤ 140737488355328 by omega, show l.length ≤ 1152921504606846975 by omega]
  cases isRecord (l ++ [(⟨s, v, sealOf (lastSig l) s v⟩ : Note)]) <;> simp
def noteLights (l : List Note) (s : Int) (v : List Int) : List Note × Bool := match l.getLast? with
  | some e => if e.lights = v then (l, isRecord l && (decide (e.second < s) && inR s 0 1000000)) else addEntry l s v
  | none => addEntry l s v
theorem sNoteLights_v (l : List Note) (s : Int) (v : List Int) (h : SmR l) (hl : l.length ≤ 1000) (hv : Sm v) : S_sNoteLights l s v = some (noteLights l s v) := by
  unfold S_sNoteLights noteLights
  simp only [rws_note_ss, rws_note_so, rws_note_oo, rws_i, len_note, geti_note_ss, geti_note_so, geti_note_oo, sAddEntry_v l s v h hl hv, sl27Copy_v l h, sIsRecord_v l h, bnd_some]
  cases hg : l.getLast? with
  | none => have : l = [] := by simpa using hg
            subst this; rfl
  | some e =>
    obtain ⟨e1, e2⟩ := last_get hg
    have hk1 : W ((l.length : Int) - 1) = ((l.length - 1 : Nat) : Int) := by rw [W_id (by omega) (by omega)]; omega
    have he : Sm e.lights := h.2 e (mem_at e1)
    rw [hk1, getZ_at e1, show (((l.length : Nat) : Int) == 0) = false from beq_eq_false_iff_ne.2 (by omega), cnd_ff, getZ_at e1]
    simp only [sEqualInts_v _ v he, bnd_some, sl1In_v]
    by_cases c : e.lights = v
    · simp only [c, decide_true, Bool.not_true, cnd_ff]
      cases isRecord l <;> by_cases c2 : e.second < s <;> simp [c2, inR]
    · simp [c]
theorem iNoteLights_v (l : List Note) (s : Int) (v : List Int) (h : SmR l) (hl : l.length ≤ 1000) (hv : Sm v) : S_iNoteLights l s v = some (noteLights l s v) := by
  unfold S_iNoteLights noteLights
  simp only [rws_note_ss, rws_note_so, rws_note_oo, rws_i, len_note, geti_note_ss, geti_note_so, geti_note_oo, iAddEntry_v l s v h hl hv, icloneRecord_v l h, iIsRecord_v l h, bnd_some]
  cases hg : l.getLast? with
  | none => have : l = [] := by simpa using hg
            subst this; rfl
  | some e =>
    obtain ⟨e1, e2⟩ := last_get hg
    have hk1 : W ((l.length : Int) - 1) = ((l.length - 1 : Nat) : Int) := by rw [W_id (by omega) (by omega)]; omega
    have he : Sm e.lights := h.2 e (mem_at e1)
    rw [hk1, getZ_at e1, show (((l.length : Nat) : Int) == 0) = false from beq_eq_false_iff_ne.2 (by omega), cnd_ff, getZ_at e1]
    simp only [slices_Equal_int_int_v _ v he, bnd_some, iInRange_v]
    by_cases c : e.lights = v
    · simp only [c, decide_true, Bool.not_true, cnd_ff]
      cases isRecord l <;> by_cases c2 : e.second < s <;> simp [c2, inR]
    · simp [c]
theorem addEntry_sm {l : List Note} {s : Int} {v : List Int} (h : SmR l) (hl : l.length ≤ 1000) (hv : Sm v) : SmR (addEntry l s v).1 := by
  unfold addEntry
  split
  · exact smR_app h hl hv
  · exact h
theorem noteLights_sm {l : List Note} {s : Int} {v : List Int} (h : SmR l) (hl : l.length ≤ 1000) (hv : Sm v) : SmR (noteLights l s v).1 := by
  unfold noteLights
  split
  · split
    · exact h
    · exact addEntry_sm h hl hv
  · exact addEntry_sm h hl hv
/-- the record without what it says of the last second -/
def cutLast (t : Town) : List Note := match t.record.getLast? with
  | some e => if e.second = t.now then t.record.dropLast else t.record
  | none => t.record
def note (t : Town) : Town :=
  if (noteLights (cutLast t) t.now (lightsNow t)).2 = false ∧ (cutLast t).length = 60 then { t with record := (noteLights [] t.now (lightsNow t)).1, books := t.books + 1 }
  else { t with record := (noteLights (cutLast t) t.now (lightsNow t)).1 }
theorem smR_nil : SmR [] := ⟨by unfold Sm; simp, fun y hy => by cases hy⟩
theorem smR_cut {t : Town} (h : SmR t.record) : SmR (cutLast t) := by
  have h1 := h.1
  unfold Sm at h1
  unfold cutLast
  split
  · split
    · refine ⟨by unfold Sm; simp; omega, fun y hy => h.2 y ((List.dropLast_sublist _).subset hy)⟩
    · exact h
  · exact h
theorem cut_len (t : Town) : (cutLast t).length ≤ t.record.length := by
  unfold cutLast
  split
  · split
    · simp
    · exact Nat.le_refl _
  · exact Nat.le_refl _
theorem lightsNow_sm (x : Town) (h : SmTown x) : Sm (lightsNow x) := by
  have h0 := h.1
  unfold Sm lightsNow lightsOf at *
  split
  · split
    · simpa using h0
    · simp
  · simpa using h0
theorem note_sm {t : Town} (h : SmTown t) (hl : t.record.length ≤ 1000) : SmTown (note t) := by
  have hv := lightsNow_sm t h
  have hc := cut_len t
  obtain ⟨h0, h1, h2, h3, h4⟩ := h
  unfold note
  split
  · exact ⟨h0, h1, h2, h3, noteLights_sm smR_nil (by simp) hv⟩
  · exact ⟨h0, h1, h2, h3, noteLights_sm (smR_cut h4) (by omega) hv⟩
theorem take_dropLast {α : Type} (l : List α) : l.take (l.length - 1) = l.dropLast := List.dropLast_eq_take.symm
theorem cut_some {t : Town} {e : Note} (hg : t.record.getLast? = some e) : cutLast t = if e.second = t.now then t.record.take (t.record.length - 1) else t.record := by
  unfold cutLast
  rw [hg, take_dropLast]
theorem noteLights_nil (s : Int) (v : List Int) : noteLights [] s v = addEntry [] s v := rfl
theorem sl34Note_v (t : Town) (h : SmTown t) (hl : t.record.length ≤ 1000) (hb : 0 ≤ t.books ∧ t.books ≤ 1000) : S_sl34Note t = some (note t) := by
  have hv := lightsNow_sm t h
  have h4 := h.2.2.2.2
  have hc := cut_len t
  have hcs := smR_cut h4
  unfold S_sl34Note note
  simp only [rws_path, rws_i, rws_want, rws_lamp, rws_note_ss, rws_note_so, rws_note_oo, eta_Control, eta_Town, sLightsNow_v t h, bnd_some, len_note, geti_note_ss, geti_note_so, geti_note_oo]
  have last : ∀ l : List Note, l.length ≤ 1000 → SmR l → (bnd (S_sNoteLights l t.now (lightsNow t)) fun r => cnd (!r.2) (cnd ((l.length : Int) == 60) (bnd (S_sAddEntry [] t.now (lightsNow t)) fun r5 => bnd (S_sMin 1000 t.books) fun r6 => some ({ t with record := r5.1, books := W (r6 + 1) } : Town)) (some { t with record := r.1 })) (some { t with record := r.1 })) =
      some (if (noteLights l t.now (lightsNow t)).2 = false ∧ l.length = 60 then { t with record := (noteLights [] t.now (lightsNow t)).1, books := t.books + 1 } else { t with record := (noteLights l t.now (lightsNow t)).1 }) := by
    intro l h1 h2
    simp only [sNoteLights_v l t.now _ h2 h1 hv, sAddEntry_v [] t.now _ smR_nil (by simp) hv, sMin_v, bnd_some, noteLights_nil, show (if t.books < 1000 then t.books else 1000) = t.books by split <;> omega]
    rw [W_id (by omega) (by omega)]
    cases (noteLights l t.now (lightsNow t)).2 <;> by_cases c : l.length = 60 <;> simp [c, cnd_if] <;> omega
  cases hg : t.record.getLast? with
  | none =>
    have hn : t.record = [] := by simpa using hg
    have hcut : cutLast t = t.record := by unfold cutLast; rw [hg]
    rw [hcut]
    rw [← last t.record hl h4]
    simp [hn]
  | some e =>
    obtain ⟨e1, e2⟩ := last_get hg
    have hk1 : W ((t.record.length : Int) - 1) = ((t.record.length - 1 : Nat) : Int) := by rw [W_id (by omega) (by omega)]; omega
    rw [hk1, show decide (((t.record.length : Nat) : Int) > 0) = true from decide_eq_true (by omega), cnd_tt, getZ_at e1]
    rw [cut_some hg] at hcs ⊢
    by_cases c : e.second = t.now
    · rw [if_pos c] at hcs ⊢
      simp only [c, beq_self_eq_true, cnd_tt]
      rw [ifA_pos (by omega), Int.toNat_natCast, show Int.toNat 0 = 0 from rfl, List.drop_zero]
      simp only [take_note, rws_note_ss, rws_note_so, rws_note_oo, sl27Copy_v _ hcs, bnd_some, len_note]
      exact last _ (by simp; omega) hcs
    · rw [if_neg c]
      simp only [show (e.second == t.now) = false from beq_eq_false_iff_ne.2 c, cnd_ff]
      exact last _ hl h4
theorem inoted_v (t : Town) (h : SmTown t) (hl : t.record.length ≤ 1000) (hb : 0 ≤ t.books ∧ t.books ≤ 1000) : S_inoted t = some (note t) := by
  have hv := lightsNow_sm t h
  have h4 := h.2.2.2.2
  have hc := cut_len t
  have hcs := smR_cut h4
  unfold S_inoted note
  simp only [rws_path, rws_i, rws_want, rws_lamp, rws_note_ss, rws_note_so, rws_note_oo, rws_note_oo, eta_Control, eta_Town, iLightsNow_v t h, bnd_some, len_note, geti_note_so]
  have last : ∀ l : List Note, l.length ≤ 1000 → SmR l → (cnd ((l.length : Int) == 60) (bnd (S_iNoteLights l t.now (lightsNow t)) fun r => cnd r.2 (some ({ t with record := r.1 } : Town)) (bnd (S_iNoteLights [] t.now (lightsNow t)) fun r4 => some { t with record := r4.1, books := W (t.books + 1) })) (bnd (S_iNoteLights l t.now (lightsNow t)) fun r => some { t with record := r.1 })) =
      some (if (noteLights l t.now (lightsNow t)).2 = false ∧ l.length = 60 then { t with record := (noteLights [] t.now (lightsNow t)).1, books := t.books + 1 } else { t with record := (noteLights l t.now (lightsNow t)).1 }) := by
    intro l h1 h2
    simp only [iNoteLights_v l t.now _ h2 h1 hv, iNoteLights_v [] t.now _ smR_nil (by simp) hv, bnd_some]
    rw [W_id (by omega) (by omega)]
    cases (noteLights l t.now (lightsNow t)).2 <;> by_cases c : l.length = 60 <;> simp [c, cnd_if] <;> omega
  cases hg : t.record.getLast? with
  | none =>
    have hn : t.record = [] := by simpa using hg
    have hcut : cutLast t = t.record := by unfold cutLast; rw [hg]
    rw [hcut]
    rw [← last t.record hl h4]
    simp [hn]
  | some e =>
    obtain ⟨e1, e2⟩ := last_get hg
    have hk1 : W ((t.record.length : Int) - 1) = ((t.record.length - 1 : Nat) : Int) := by rw [W_id (by omega) (by omega)]; omega
    rw [hk1, show decide (((t.record.length : Nat) : Int) > 0) = true from decide_eq_true (by omega), cnd_tt, getZ_at e1]
    rw [cut_some hg] at hcs ⊢
    by_cases c : e.second = t.now
    · rw [if_pos c] at hcs ⊢
      simp only [c, beq_self_eq_true, cnd_tt]
      rw [ifA_pos (by omega), Int.toNat_natCast, show Int.toNat 0 = 0 from rfl, List.drop_zero]
      simp only [take_note, rws_note_so, len_note]
      exact last _ (by simp; omega) hcs
    · rw [if_neg c]
      simp only [show (e.second == t.now) = false from beq_eq_false_iff_ne.2 c, cnd_ff]
      exact last _ hl h4
def stepped (t o : Town) (ok : Bool) : Town × Bool := if ok && (isTown t && isTown o) then (o, true) else (t, false)
theorem sl34Done_v (t o : Town) (ok : Bool) (h : SmTown t) (h' : SmTown o) : S_sl34Done t o ok = some (stepped t o ok) := by
  unfold S_sl34Done stepped
  simp only [rws_path, rws_i, rws_want, rws_lamp, rws_note_ss, rws_note_so, rws_note_oo, eta_Control, eta_Town, sl33Copy_v t h, sIsTown_v t h, sIsTown_v o h', bnd_some]
  cases ok <;> cases isTown t <;> cases isTown o <;> simp [eta_Control, eta_Town]
theorem istepped_v (t o : Town) (ok : Bool) (h : SmTown t) (h' : SmTown o) : S_istepped t o ok = some (stepped t o ok) := by
  unfold S_istepped stepped
  simp only [rws_path, rws_i, rws_want, rws_lamp, rws_note_ss, rws_note_so, rws_note_oo, rws_note_oo, eta_Control, eta_Town, icloneTown_v t h, iIsTown_v t h, iIsTown_v o h', bnd_some]
  cases ok <;> cases isTown t <;> cases isTown o <;> simp [eta_Control, eta_Town]
theorem stepped_sm {t o : Town} {ok : Bool} (h : SmTown t) (h' : SmTown o) : SmTown (stepped t o ok).1 := by
  unfold stepped
  split
  · exact h'
  · exact h
theorem iisBus_v (l : List Path) (id : Int) (hl : Sm l) : S_iisBus l id = some (isBus l id) := by
  unfold S_iisBus isBus
  simp only [rws_path, iFindPath_v _ _ hl, bnd_some, geti_path, cnd_if]
  by_cases hf : findPath l id < 0
  · simp [hf, show ¬ (findPath l id ≥ 0) by omega]
  · simp [hf, show (0 : Int) ≤ findPath l id by omega, getZ_find hf]
def askPrio (l : List Path) (x : Prio) (p : Int) : Prio × Bool := if isPrio l x && (x.path == 0 && isBus l p) then (⟨p, 20⟩, true) else (x, false)
theorem isPrio_new {l : List Path} {x : Prio} (h : isPrio l x = true) (p : Int) : isPrio l ⟨p, 20⟩ = isBus l p := by
  unfold isPrio at *
  rw [Bool.and_eq_true] at h
  have : ((⟨p, 20⟩ : Prio) = ⟨0, 0⟩) = False := by simp
  simp [h.1, this, inR]
def stepBus (t : Town) (p : Int) : Town × Bool := stepped t { t with prio := (askPrio t.paths t.prio p).1 } (askPrio t.paths t.prio p).2
theorem stepBus_sm {t : Town} (h : SmTown t) (p : Int) : SmTown (stepBus t p).1 := stepped_sm h h
def isRoad (l : List Path) (id : Int) : Bool := !decide (findPath l id < 0) && (pathAt l id).kind != 2
def canCut (l : List Path) (x : Control) : Bool := isControl l x && (x.next.isEmpty && decide (x.since ≥ if leastGreen l x.stage = 7 then 7 else 4))
theorem clearOf_pos (p : Path) : 0 ≤ clearOf p ∧ clearOf p ≤ 5 := by
  unfold clearOf
  split
  · split
    · omega
    · split <;> omega
  · omega
theorem most_le {n c : Int} (h : 0 ≤ n ∧ n ≤ 5) (h' : 0 ≤ c ∧ c ≤ 5) : 0 ≤ most n c ∧ most n c ≤ 5 := by unfold most; split <;> omega
theorem stepC_le (l : List Path) (x : Int) : ∀ (s : List Int) (n : Int), 0 ≤ n ∧ n ≤ 5 → 0 ≤ s.foldl (stepC l x) n ∧ s.foldl (stepC l x) n ≤ 5
  | [], n, h => h
  | y :: s, n, h => by
    rw [List.foldl_cons]
    refine stepC_le l x s _ ?_
    unfold stepC
    split
    · exact most_le h (clearOf_pos _)
    · exact h
theorem clear_fold (l : List Path) (b : List Int) : ∀ (s : List Int) (n : Int), 0 ≤ n ∧ n ≤ 5 → 0 ≤ s.foldl (fun n x => b.foldl (stepC l x) n) n ∧ s.foldl (fun n x => b.foldl (stepC l x) n) n ≤ 5
  | [], n, h => h
  | y :: s, n, h => by
    rw [List.foldl_cons]
    exact clear_fold l b s _ (stepC_le l y b n h)
theorem clear_le (l : List Path) (a b : List Int) : 0 ≤ clearBetween l a b ∧ clearBetween l a b ≤ 5 := by
  unfold clearBetween
  split
  · exact clear_fold l _ _ 0 (by omega)
  · omega
def cutFor (l : List Path) (x : Control) (p : Int) : Control × Bool :=
  if canCut l x && (isRoad l p && !has x.stage p) then
    (if clearBetween l x.stage [p] = 0 then (⟨[p], 0, [], 0⟩, true) else (⟨x.stage, x.since, [p], clearBetween l x.stage [p]⟩, true))
  else (x, false)
theorem sm_one (p : Int) : Sm [p] := by unfold Sm; simp
def tick (l : List Path) (x : Control) : Control :=
  if isControl l x = true then
    (if x.next.isEmpty = true then { x with since := if x.since < 1000000 then x.since + 1 else 1000000 } else if x.left > 1 then { x with left := x.left - 1 } else ⟨x.next, 0, [], 0⟩)
  else x
theorem control_left {l : List Path} {x : Control} (h : isControl l x = true) : (0 ≤ x.since ∧ x.since ≤ 1000000) ∧ (x.next.isEmpty = false → 1 ≤ x.left ∧ x.left ≤ 5) := by
  unfold isControl inR at h
  simp only [Bool.and_eq_true, decide_eq_true_eq] at h
  refine ⟨h.1.2, fun hn => ?_⟩
  have h2 := h.2
  rw [if_neg (by intro e; rw [e] at hn; cases hn)] at h2
  simp only [Bool.and_eq_true, decide_eq_true_eq] at h2
  have := (clear_le l x.stage x.next).2
  omega
theorem cutFor_sm {l : List Path} {x : Control} {p : Int} (hx : SmControl x) : SmControl (cutFor l x p).1 := by
  unfold cutFor
  split
  · split
    · exact ⟨sm_one p, by unfold Sm; simp⟩
    · exact ⟨hx.1, sm_one p⟩
  · exact hx
theorem tick_sm {l : List Path} {x : Control} (hx : SmControl x) : SmControl (tick l x) := by
  unfold tick
  split
  · split
    · exact hx
    · split
      · exact hx
      · exact ⟨hx.2, by unfold Sm; simp⟩
  · exact hx
def siren (l : List Path) (x : Control) (p : Int) : Control := if (cutFor l x p).2 = true then (cutFor l x p).1 else tick l x
theorem siren_sm {l : List Path} {x : Control} {p : Int} (hx : SmControl x) : SmControl (siren l x p) := by
  unfold siren
  split
  · exact cutFor_sm hx
  · exact tick_sm hx
/-! what stays valid -/
theorem together_nil {l : List Path} : together l [] = arePaths l := by unfold together; rfl
theorem together_are {l : List Path} {a : List Int} (h : together l a = true) : arePaths l = true := by
  unfold together at h
  rw [Bool.and_eq_true] at h
  exact h.2
theorem together_one {l : List Path} {p : Int} (h : arePaths l = true) (hp : ¬ findPath l p < 0) : together l [p] = true := by
  unfold together
  simp [goT, hp, prevOk, h]
theorem control_parts {l : List Path} {x : Control} (h : isControl l x = true) : x.stage ≠ [] ∧ together l x.stage = true ∧ together l x.next = true := by
  unfold isControl at h
  simp only [Bool.and_eq_true] at h
  refine ⟨fun e => ?_, h.1.1.1.2, h.1.1.2⟩
  have := h.1.1.1.1
  rw [e] at this
  cases this
theorem tick_control {l : List Path} {x : Control} (h : isControl l x = true) : isControl l (tick l x) = true := by
  obtain ⟨a1, a2, a3⟩ := control_parts h
  obtain ⟨h1, h2⟩ := control_left h
  have ha := together_are a2
  unfold tick
  rw [if_pos h]
  unfold isControl inR at h ⊢
  simp only [Bool.and_eq_true, decide_eq_true_eq] at h
  cases hn : x.next with
  | nil =>
    rw [hn] at h
    simp at h
    simp [a1, a2, together_nil, ha, h]
    split <;> omega
  | cons b r =>
    rw [hn] at h a3
    have h3 := h2 (by rw [hn]; rfl)
    have h4 := h.2
    simp at h4
    by_cases c : x.left > 1
    · simp [c, a1, a2, a3, h1]
      omega
    · simp [c, a3, together_nil, ha]
theorem cutFor_control {l : List Path} {x : Control} {p : Int} (h : isControl l x = true) : isControl l (cutFor l x p).1 = true := by
  unfold cutFor
  split
  · rename_i hc
    simp only [Bool.and_eq_true, isRoad] at hc
    have hp : ¬ findPath l p < 0 := by simpa using hc.2.1.1
    obtain ⟨a1, a2, a3⟩ := control_parts h
    obtain ⟨h1, h2⟩ := control_left h
    have ha := together_are a2
    have h0 := clear_le l x.stage [p]
    split
    · simp [isControl, together_one ha hp, together_nil, ha, inR]
    · simp [isControl, together_one ha hp, a1, a2, inR, h1]
      omega
  · exact h
theorem siren_control {l : List Path} {x : Control} {p : Int} (h : isControl l x = true) : isControl l (siren l x p) = true := by
  unfold siren
  split
  · exact cutFor_control h
  · exact tick_control h
theorem goW_mem {l : List Path} : ∀ {w : List Want} {pv : Option Int}, goW l pv w = true → ∀ x ∈ w, wantOk l x = true
  | [], _, _, x, hx => by cases hx
  | y :: w, pv, h, x, hx => by
    simp only [goW, Bool.and_eq_true] at h
    rcases List.mem_cons.1 hx with rfl | hx
    · exact h.1.1
    · exact goW_mem h.2 x hx
theorem wants_mem {l : List Path} {w : List Want} (h : areWants l w = true) {x : Want} (hx : x ∈ w) : ¬ findPath l x.path < 0 ∧ 0 ≤ x.wait ∧ x.wait ≤ 100000 := by
  unfold areWants at h
  rw [Bool.and_eq_true] at h
  have := goW_mem h.2 x hx
  unfold wantOk inR at this
  simpa using this
theorem getZ_light {β : Type} {l : List Path} {y : Control} {id : Int} (hc : isControl l y = true) (h : ¬ findPath l id < 0) (K : Int → Option β) : getZ (lightsOf l y) (findPath l id) K = K (lightAt y id) := by
  obtain ⟨i, x, h1, h2, h3⟩ := findPath_lt h
  have : (lightsOf l y)[i]? = some (lightAt y x.id) := by
    unfold lightsOf
    rw [if_pos hc, List.getElem?_map, h1]
    rfl
  rw [h2, getZ_at this, h3]
theorem lights_len {l : List Path} {y : Control} (hc : isControl l y = true) : (lightsOf l y).length = l.length := by
  unfold lightsOf
  rw [if_pos hc, List.length_map]
def bump (n : Int) : Int := if n < 100000 then n + 1 else 100000
def waited (y : Control) (w : List Want) : List Want := w.filterMap fun x => if lightAt y x.path = 1 then none else some ⟨x.path, bump x.wait⟩
theorem appe_want (l : List Want) (a b : Int) {β : Type} (K : List Want → Option β) : rws wantR (l.map wantR.enc ++ [[I a, I b]]) K = K (l ++ [(⟨a, b⟩ : Want)]) :=
  (rws_app _ _ _ K).trans ((rws_want l _).trans (row_want _ _ fun l' => K (l ++ l')))
theorem waited_sm {y : Control} {w : List Want} (h : Sm w) : Sm (waited y w) := Nat.le_trans (List.length_filterMap_le _ _) h
def shorter (r : Prio) : Prio := if r.left ≤ 1 then ⟨0, 0⟩ else ⟨r.path, r.left - 1⟩
theorem prio_left {l : List Path} {x : Prio} (h : isPrio l x = true) : 0 ≤ x.left ∧ x.left ≤ 20 := by
  unfold isPrio inR at h
  simp only [Bool.and_eq_true, Bool.or_eq_true, decide_eq_true_eq] at h
  rcases h.2 with h | h
  · rw [h]; exact ⟨by decide, by decide⟩
  · omega
theorem town_parts {t : Town} (h : isTown t = true) : isControl t.paths t.control = true ∧ areWants t.paths t.wants = true ∧ isPrio t.paths t.prio = true ∧ areLamps t.paths t.lamps = true ∧ isRecord t.record = true ∧ t.record ≠ [] ∧ (0 ≤ t.books ∧ t.books ≤ 1000) ∧ (0 ≤ t.now ∧ t.now ≤ 1000000) ∧ t.record.length ≤ 60 := by
  unfold isTown inR at h
  simp only [Bool.and_eq_true, decide_eq_true_eq, Bool.not_eq_true'] at h
  have hr := h.1.1.1.1.1.1.2
  refine ⟨h.1.1.1.1.1.1.1.1.1.1, h.1.1.1.1.1.1.1.1.1.2, h.1.1.1.1.1.1.1.1.2, h.1.1.1.1.1.1.1.2, hr, fun e => ?_, h.1.2, h.2, ?_⟩
  · have := h.1.1.1.1.1.2
    rw [e] at this
    cases this
  · unfold isRecord at hr
    rw [Bool.and_eq_true, decide_eq_true_eq] at hr
    exact hr.1
theorem sModeOf_v (t : Town) (h : SmTown t) : S_sModeOf t = some (mode t.paths t.lamps t.power) := by
  unfold S_sModeOf
  simp [sModeFor_v _ _ _ h.1 h.2.2.2.1]
theorem iModeOf_v (t : Town) (h : SmTown t) : S_iModeOf t = some (mode t.paths t.lamps t.power) := by
  unfold S_iModeOf
  simp [iModeFor_v _ _ _ h.1 h.2.2.2.1]
def stepPower (t : Town) (b : Bool) : Town × Bool := if isTown t && !(t.power == b) then stepped t (note { t with power := b }) true else (t, false)
theorem note_smT {t u : Town} (h : isTown t = true) (hr : u.record = t.record) (hu : SmTown u) : SmTown (note u) := note_sm hu (by rw [hr]; have := (town_parts h).2.2.2.2.2.2.2.2; omega)
theorem sNote_vT {t u : Town} (h : isTown t = true) (hr : u.record = t.record) (hb : u.books = t.books) (hu : SmTown u) : S_sl34Note u = some (note u) := by
  have := town_parts h
  exact sl34Note_v u hu (by rw [hr]; omega) (by rw [hb]; omega)
theorem iNote_vT {t u : Town} (h : isTown t = true) (hr : u.record = t.record) (hb : u.books = t.books) (hu : SmTown u) : S_inoted u = some (note u) := by
  have := town_parts h
  exact inoted_v u hu (by rw [hr]; omega) (by rw [hb]; omega)
theorem stepPower_sm {t : Town} (h : SmTown t) (b : Bool) : SmTown (stepPower t b).1 := by
  unfold stepPower
  split
  · rename_i hc
    rw [Bool.and_eq_true] at hc
    exact stepped_sm h (note_smT (t := t) hc.1 rfl h)
  · exact h
def helped (t : Town) (p : Int) : Town :=
  if mode t.paths t.lamps t.power = 0 then { t with now := t.now + 1, control := siren t.paths t.control p, wants := waited (siren t.paths t.control p) t.wants, prio := shorter t.prio } else { t with now := t.now + 1 }
def stepHelp (t : Town) (p : Int) : Town × Bool := if isTown t && isRoad t.paths p then stepped t (note (helped t p)) true else (t, false)
theorem helped_sm {t : Town} (h : SmTown t) (p : Int) : SmTown (helped t p) := by
  obtain ⟨h0, h1, h2, h3, h4⟩ := h
  unfold helped
  split
  · exact ⟨h0, siren_sm h1, waited_sm h2, h3, h4⟩
  · exact ⟨h0, h1, h2, h3, h4⟩
theorem helped_record (t : Town) (p : Int) : (helped t p).record = t.record ∧ (helped t p).books = t.books := by
  unfold helped
  split <;> exact ⟨rfl, rfl⟩
theorem stepHelp_sm {t : Town} (h : SmTown t) (p : Int) : SmTown (stepHelp t p).1 := by
  unfold stepHelp
  split
  · rename_i hc
    rw [Bool.and_eq_true] at hc
    exact stepped_sm h (note_smT hc.1 (helped_record t p).1 (helped_sm h p))
  · exact h
end Go.Sh
