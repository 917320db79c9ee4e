/- Plain facts: what the functions compute. -/
import Derived.Test.YtjojcbmkcnkjoaaGreatDoorHpV
import Derived.Lib.ItoaLen
set_option linter.all false
namespace Go.Sh
open Go.Fx
theorem sl1In_v (x a b : Int) : S_sl1In x a b = some (decide (a ≤ x) && decide (x ≤ b)) := by
  unfold S_sl1In
  by_cases h : a ≤ x <;> simp [h, cnd_if]
theorem iInRange_v (x a b : Int) : S_iInRange x a b = some (decide (a ≤ x) && decide (x ≤ b)) := by
  unfold S_iInRange
  by_cases h : a ≤ x <;> simp [h, cnd_if]
theorem W_n1 {n : Nat} (h : n ≤ 9223372036854775806) : W ((n : Int) + 1) = (n : Int) + 1 := W_id (by omega) (by omega)
def inR (n a b : Int) : Bool := decide (a ≤ n) && decide (n ≤ b)
def isPath (p : Path) : Bool := inR p.id 1 20 && inR p.kind 1 3 && inR p.src 0 3 && inR p.dst 0 3 && ((p.src == p.dst) == (p.kind == 2))
theorem sIsPath_v (p : Path) : S_sIsPath p = some (isPath p) := by
  unfold S_sIsPath isPath inR
  simp only [sl1In_v, bnd_some]
  cases (decide (1 ≤ p.id) && decide (p.id ≤ 20)) <;> cases (decide (1 ≤ p.kind) && decide (p.kind ≤ 3)) <;> cases (decide (0 ≤ p.src) && decide (p.src ≤ 3)) <;> cases (decide (0 ≤ p.dst) && decide (p.dst ≤ 3)) <;> simp
theorem iIsPath_v (p : Path) : S_iIsPath p = some (isPath p) := by
  unfold S_iIsPath isPath inR
  simp only [iInRange_v, bnd_some]
  cases (decide (1 ≤ p.id) && decide (p.id ≤ 20)) <;> cases (decide (1 ≤ p.kind) && decide (p.kind ≤ 3)) <;> cases (decide (0 ≤ p.src) && decide (p.src ≤ 3)) <;> cases (decide (0 ≤ p.dst) && decide (p.dst ≤ 3)) <;> simp
def goP : Option Int → List Path → Bool
  | _, [] => true
  | none, p :: r => isPath p && goP (some p.id) r
  | some i, p :: r => isPath p && decide (i < p.id) && goP (some p.id) r
def arePaths (l : List Path) : Bool := decide (l.length ≤ 12) && goP none l
def prevId (l : List Path) (k : Nat) : Option Int := if k = 0 then none else (l[k - 1]?).map (·.id)
theorem prevId_succ {l : List Path} {k : Nat} {x : Path} (h : l[k]? = some x) : prevId l (k + 1) = some x.id := by
  unfold prevId
  simp [h]
theorem sArePaths_v (l : List Path) (h : Sm l) : S_sArePaths l = some (arePaths l) := by
  unfold Sm at h
  unfold S_sArePaths
  simp
  refine (iter_list0 l (by omega) (fun k (_ : Unit) => (l, (k : Int))) () (fun s k _ => some (goP (prevId l k) s && decide (l.length ≤ 12))) rfl ?_ ?_).trans ?_
  · intro rec _
    simp [goP]
    omega
  · intro rec k x _ hx hk hr
    have hr' := hr ()
    simp [hk, getZ_at hx, sIsPath_v, W_n1 (show k ≤ 9223372036854775806 by omega)] at hr' ⊢
    cases hp : isPath x with
    | false => cases hq : prevId l k <;> simp [goP, hp]
    | true =>
      simp
      by_cases h0 : k = 0
      · subst h0
        simp [prevId, hx] at hr'
        simp [hr', prevId, goP, hp, hx]
      · have hz : l[k - 1]? = some l[k - 1] := List.getElem?_eq_getElem (by omega)
        have hk1 : W ((k : Int) - 1) = ((k - 1 : Nat) : Int) := by rw [W_id (by omega) (by omega)]; omega
        simp [show 0 < k by omega, hk1, getZ_at hz, hr', prevId_succ hx]
        rw [show prevId l k = some (l[k - 1]).id by unfold prevId; simp [h0, hz]]
        simp [goP, hp, cnd_if]
        by_cases h1 : x.id ≤ (l[k - 1]).id
        · simp [h1, show ¬ ((l[k - 1]).id < x.id) by omega]
        · simp [h1, show (l[k - 1]).id < x.id by omega]
  · simp [prevId, arePaths, Bool.and_comm]
theorem iArePaths_v (l : List Path) (h : Sm l) : S_iArePaths l = some (arePaths l) := by
  unfold Sm at h
  unfold S_iArePaths
  simp
  by_cases h12 : (12 : Int) < (l.length : Int)
  · simp [h12, arePaths, show ¬ (l.length ≤ 12) by omega]
  simp [h12]
  refine (iter_list0 l (by omega) (fun k (_ : Unit) => (l, l, (l.length : Int), (k : Int))) () (fun s k _ => some (goP (prevId l k) s)) rfl ?_ ?_).trans ?_
  · intro rec _
    simp [goP]
  · intro rec k x _ hx hk hr
    have hr' := hr ()
    simp [hk, getZ_at hx, iIsPath_v, W_n1 (show k ≤ 9223372036854775806 by omega)] at hr' ⊢
    cases hp : isPath x with
    | false => cases hq : prevId l k <;> simp [goP, hp]
    | true =>
      simp
      by_cases h0 : k = 0
      · subst h0
        simp [prevId, hx] at hr'
        simp [hr', prevId, goP, hp, hx]
      · have hz : l[k - 1]? = some l[k - 1] := List.getElem?_eq_getElem (by omega)
        have hk1 : W ((k : Int) - 1) = ((k - 1 : Nat) : Int) := by rw [W_id (by omega) (by omega)]; omega
        simp [show 0 < k by omega, hk1, getZ_at hz, hr', prevId_succ hx]
        rw [show prevId l k = some (l[k - 1]).id by unfold prevId; simp [h0, hz]]
        simp [goP, hp, cnd_if]
        by_cases h1 : x.id ≤ (l[k - 1]).id
        · simp [h1, show ¬ ((l[k - 1]).id < x.id) by omega]
        · simp [h1, show (l[k - 1]).id < x.id by omega]
  · simp [prevId, arePaths, show l.length ≤ 12 by omega]
def clearOf (p : Path) : Int := if isPath p then (if p.kind = 1 then 2 else if p.kind = 2 then 5 else 3) else 0
theorem kind_of {p : Path} (h : isPath p = true) : p.kind = 1 ∨ p.kind = 2 ∨ p.kind = 3 := by
  simp [isPath, inR] at h
  omega
theorem sClearOf_v (p : Path) : S_sClearOf p = some (clearOf p) := by
  unfold S_sClearOf clearOf
  rw [sIsPath_v, bnd_some]
  cases h : isPath p with
  | false => rfl
  | true => rcases kind_of h with e | e | e <;> rw [e] <;> rfl
theorem sMax_v (a b : Int) : S_sMax a b = some (if a < b then b else a) := by
  unfold S_sMax
  rw [cnd_if]
  split <;> simp_all <;> omega
theorem tmod_pos {a m : Int} (h : 0 ≤ a) : Int.tmod a m = a % m := Int.tmod_eq_emod_of_nonneg h
theorem sl1In_t {x a b : Int} (h : a ≤ x) (h' : x ≤ b) : S_sl1In x a b = some true := by rw [sl1In_v]; simp [h, h']
theorem tmod_cases (n : Int) {m : Int} (h : 0 < m) : (0 ≤ Int.tmod n m ∧ Int.tmod n m < m ∧ Int.tmod n m = n % m) ∨ (Int.tmod n m < 0 ∧ -m < Int.tmod n m ∧ Int.tmod n m + m = n % m) := by
  have h1 := Int.tmod_lt_of_pos n h
  have h2 := Int.lt_tmod_of_pos n h
  have h3 : n = m * Int.tdiv n m + Int.tmod n m := by have := Int.mul_tdiv_add_tmod n m; omega
  have h4 : n % m = Int.tmod n m % m := by
    conv => lhs; rw [h3]
    rw [Int.add_comm, Int.add_mul_emod_self_left]
  rcases (by omega : Int.tmod n m < 0 ∨ 0 ≤ Int.tmod n m) with hn | hp
  · right
    refine ⟨hn, h2, ?_⟩
    rw [h4, ← Int.add_emod_right, Int.emod_eq_of_lt (by omega) (by omega)]
  · left
    exact ⟨hp, h1, by rw [h4, Int.emod_eq_of_lt hp h1]⟩
theorem sMod_v (n m : Int) (h : 1 ≤ m) (h' : m ≤ 1000000000000) : S_sMod n m = some (n % m) := by
  unfold S_sMod
  rw [sl1In_t h h', bnd_some]
  rw [show (!true) = false from rfl, cnd_ff, ifA_pos (by omega), ifA_pos (by omega)]
  rcases tmod_cases n (show 0 < m by omega) with ⟨a, b, c⟩ | ⟨a, b, c⟩
  · rw [W_id (by omega) (by omega), tmod_pos (by omega), c, Int.add_emod_right, Int.emod_emod_of_dvd _ (Int.dvd_refl m)]
  · rw [W_id (by omega) (by omega), tmod_pos (by omega), c, Int.emod_emod_of_dvd _ (Int.dvd_refl m)]
def mix (a v : Int) : Int := Int.tmod (W (W (W (a * 1000003) + v % 2147483647) + 13)) 2147483647
def hash (l : List Int) : Int := l.foldl mix 11
theorem sHash_v (l : List Int) (h : l.length ≤ 2097152) : S_sHash l = some (hash l) := by
  unfold S_sHash hash
  simp
  refine (iter_list0 l (by omega) (fun k n => (l, n, (k : Int))) 11 (fun s _ n => some (s.foldl mix n)) rfl ?_ ?_).trans rfl
  · intro rec n
    simp
  · intro rec k x n hx hk hr
    simp only [Int.natCast_succ] at hr
    simp [hk, getZ_at hx, sMod_v _ 2147483647, W_n1 (show k ≤ 9223372036854775806 by omega)]
    exact hr _
def sealOf (b s : Int) (l : List Int) : Int := hash (b :: s :: l)
theorem sSealOf_v (b s : Int) (l : List Int) (h : Sm l) : S_sSealOf b s l = some (sealOf b s l) := by
  unfold Sm at h
  unfold S_sSealOf sealOf
  simp
  rw [ifA_pos (by omega), sHash_v _ (by simp; omega)]
  rfl
theorem sl1In_r (x a b : Int) : S_sl1In x a b = some (inR x a b) := sl1In_v x a b
theorem all_loop {α V β : Type} (l : List α) (p : α → Bool) (hl : l.length ≤ 1099511627776) (st : Nat → V) (K no : Option β) {F : (V → Option β) → V → Option β} {v : V} (hv : v = st 0)
    (h0 : ∀ rec, F rec (st l.length) = K)
    (h1 : ∀ rec k x, l[k]? = some x → k < l.length → F rec (st k) = if p x = true then rec (st (k + 1)) else no) : iter F NN v = if l.all p = true then K else no := by
  refine (iter_list0 l (by omega) (fun k (_ : Unit) => st k) () (fun s _ _ => if s.all p = true then K else no) hv ?_ ?_).trans rfl
  · intro rec _
    rw [h0]; simp
  · intro rec k x _ hx hk hr
    rw [h1 rec k x hx hk, List.all_cons]
    cases p x with
    | true => simpa using hr ()
    | false => simp
theorem getZ0 {α β : Type} {l : List α} {x : α} (h : l[0]? = some x) (K : α → Option β) : getZ l 0 K = K x := getZ_at h K
def noteOk (b : Int) (n : Nat) (x : Note) : Bool := inR x.second 0 1000000 && decide (x.lights.length ≤ 12) && decide (x.lights.length = n) && decide (x.sig = sealOf b x.second x.lights) && x.lights.all (fun v => inR v 0 2)
def later (pv : Option Int) (s : Int) : Bool := match pv with | none => true | some p => decide (p < s)
def goR (n : Nat) : Int → Option Int → List Note → Bool
  | _, _, [] => true
  | b, pv, x :: r => noteOk b n x && later pv x.second && goR n x.sig (some x.second) r
def firstLen (l : List Note) : Nat := match l with | [] => 0 | x :: _ => x.lights.length
def isRecord (l : List Note) : Bool := decide (l.length ≤ 60) && goR (firstLen l) 0 none l
def prevSec (l : List Note) (k : Nat) : Option Int := if k = 0 then none else (l[k - 1]?).map (·.second)
theorem prevSec_succ {l : List Note} {k : Nat} {x : Note} (h : l[k]? = some x) : prevSec l (k + 1) = some x.second := by
  unfold prevSec
  simp [h]
theorem firstLen_at {l : List Note} {x : Note} (h : l[0]? = some x) : firstLen l = x.lights.length := by
  cases l with
  | nil => simp at h
  | cons y t => simp at h; rw [firstLen, h]
theorem mem_at {α : Type} {l : List α} {k : Nat} {x : α} (h : l[k]? = some x) : x ∈ l := List.mem_of_getElem? h
theorem sIsRecord_v (l : List Note) (h : Sm l ∧ ∀ y ∈ l, SmNote y) : S_sIsRecord l = some (isRecord l) := by
  obtain ⟨h, hs⟩ := h
  unfold Sm at h
  unfold S_sIsRecord
  simp
  refine (iter_list0 l (by omega) (fun k b => (l, b, (k : Int))) 0 (fun s k b => some (decide (l.length ≤ 60) && goR (firstLen l) b (prevSec l k) s)) rfl ?_ ?_).trans rfl
  · intro rec b
    simp [goR]
    omega
  · intro rec k x b hx hk hr
    simp only [Int.natCast_succ, prevSec_succ hx] at hr
    have hsx : Sm x.lights := hs x (mem_at hx)
    have hz : l[0]? = some l[0] := List.getElem?_eq_getElem (by omega)
    by_cases h60 : (l.length : Int) ≤ 60
    · have h60' : l.length ≤ 60 := by omega
      simp [hk, h60, h60', getZ_at hx, sSealOf_v b x.second x.lights hsx, sl1In_r, getZ0 hz, goR, noteOk, later, firstLen_at hz]
      cases inR x.second 0 1000000 with
      | false => simp
      | true =>
      simp
      generalize hI : iter (_ : (List Note × Int × Int × Int → Option Bool) → _ → Option Bool) NN (l, sealOf b x.second x.lights, (k : Int), (0 : Int)) = I
      have hI' : I = if x.lights.all (fun v => inR v 0 2) = true then some (goR l[0].lights.length (sealOf b x.second x.lights) (some x.second) (l.drop (k + 1))) else some false := by
        rw [← hI]
        refine all_loop x.lights (fun v => inR v 0 2) (by unfold Sm at hsx; omega) (fun j => (l, sealOf b x.second x.lights, (k : Int), (j : Int))) _ _ rfl ?_ ?_
        · intro rec'
          simp [getZ_at hx, W_n1 (show k ≤ 9223372036854775806 by omega), hr, h60', firstLen_at hz]
        · intro rec' j v hv hj
          have hj2 : j ≤ 9223372036854775806 := by unfold Sm at hsx; omega
          simp [getZ_at hx, getZ_at hv, hj, sl1In_r, W_n1 hj2]
          cases inR v 0 2 <;> simp
      rw [hI']
      clear hI' hI
      generalize x.lights.all (fun v => inR v 0 2) = A
      by_cases c1 : (12 : Int) < (x.lights.length : Int)
      · simp [c1, show ¬ x.lights.length ≤ 12 by omega]
      simp only [c1, decide_false, cnd_ff, show x.lights.length ≤ 12 by omega, decide_true, Bool.true_and]
      by_cases c2 : x.lights.length = l[0].lights.length
      · simp only [c2, bne_self_eq_false, cnd_ff, decide_true, Bool.true_and]
        by_cases c3 : x.sig = sealOf b x.second x.lights
        · simp only [← c3, bne_self_eq_false, cnd_ff, decide_true, Bool.true_and]
          by_cases h0 : k = 0
          · subst h0
            simp [prevSec]
            cases A <;> simp
          · have hz1 : l[k - 1]? = some l[k - 1] := List.getElem?_eq_getElem (by omega)
            have hk1 : W ((k : Int) - 1) = ((k - 1 : Nat) : Int) := by rw [W_id (by omega) (by omega)]; omega
            simp [show 0 < k by omega, hk1, getZ_at hz1]
            rw [show prevSec l k = some (l[k - 1]).second by unfold prevSec; simp [h0, hz1]]
            by_cases c4 : x.second ≤ l[k - 1].second
            · simp [c4, show ¬ l[k - 1].second < x.second by omega]
            · simp [c4, show l[k - 1].second < x.second by omega]
              cases A <;> simp
        · rw [show (x.sig != sealOf b x.second x.lights) = true by simpa using c3, cnd_tt]
          simp [c3]
      · rw [show ((x.lights.length : Int) != (l[0].lights.length : Int)) = true by simp; omega, cnd_tt]
        simp [c2]
    · have h60' : ¬ l.length ≤ 60 := by omega
      simp [hk, h60, h60']
theorem goR_len {n : Nat} : ∀ {l : List Note} {b : Int} {pv : Option Int}, goR n b pv l = true → ∀ x ∈ l, x.lights.length = n ∧ 0 ≤ x.second ∧ x.second ≤ 1000000 ∧ ∀ v ∈ x.lights, 0 ≤ v
  | [], _, _, _ => fun x hx => by cases hx
  | y :: l, b, pv, h => fun x hx => by
    simp [goR, noteOk, inR] at h
    rcases List.mem_cons.1 hx with rfl | hx
    · exact ⟨h.1.1.1.1.2, by omega, by omega, fun v hv => (h.1.1.2 v hv).1⟩
    · exact goR_len h.2 x hx
theorem isRecord_len {l : List Note} (h : isRecord l = true) : ∀ x ∈ l, x.lights.length = firstLen l ∧ 0 ≤ x.second ∧ x.second ≤ 1000000 ∧ ∀ v ∈ x.lights, 0 ≤ v := by
  simp [isRecord] at h
  exact goR_len h.2
def pos (n : Int) : Int := if 0 < n then n else 0
theorem sMin_v (a b : Int) : S_sMin a b = some (if b < a then b else a) := by
  unfold S_sMin
  rw [cnd_if]
  simp only [decide_eq_true_eq]
  split <;> rfl
def lightOf (e : Note) (i : Int) : Int := if 0 ≤ i then (match e.lights[i.toNat]? with | some v => v | none => -1) else -1
@[simp] theorem bnd_id {α : Type} (x : Option α) : bnd x (fun r => some r) = x := by cases x <;> rfl
theorem mapG_loop {α γ β V : Type} (l : List α) (f : α → γ) (hl : l.length ≤ 1099511627776) (st : Nat → List γ → V) (K : List γ → Option β) {F : (V → Option β) → V → Option β} {v : V} (hv : v = st 0 [])
    (h0 : ∀ rec acc, acc.length = l.length → F rec (st l.length acc) = K acc)
    (h1 : ∀ rec k x acc, l[k]? = some x → k < l.length → acc.length = k → F rec (st k acc) = rec (st (k + 1) (acc ++ [f x]))) : iter F NN v = K (l.map f) := by
  refine (iter_listJ l (by omega) st [] (fun k acc => acc.length = k) rfl (fun s _ acc => K (acc ++ s.map f)) hv ?_ ?_).trans (by simp)
  · intro rec acc h
    rw [h0 rec acc h]
    simp
  · intro rec k x acc h hx hk hr
    rw [h1 rec k x acc hx hk h, hr _ (by simp [h])]
    simp
theorem filterMap_loop {α γ β V : Type} (l : List α) (f : α → Option γ) (hl : l.length ≤ 1099511627776) (st : Nat → List γ → V) (K : List γ → Option β) {F : (V → Option β) → V → Option β} {v : V} (hv : v = st 0 [])
    (h0 : ∀ rec acc, acc.length ≤ l.length → F rec (st l.length acc) = K acc)
    (h1 : ∀ rec k x acc, l[k]? = some x → k < l.length → acc.length ≤ k → F rec (st k acc) = rec (st (k + 1) (match f x with | some y => acc ++ [y] | none => acc))) : iter F NN v = K (l.filterMap f) := by
  refine (iter_listJ l (by omega) st [] (fun k acc => acc.length ≤ k) (Nat.le_refl _) (fun s _ acc => K (acc ++ s.filterMap f)) hv ?_ ?_).trans (by simp)
  · intro rec acc h
    rw [h0 rec acc h]
    simp
  · intro rec k x acc h hx hk hr
    rw [h1 rec k x acc hx hk h]
    cases hf : f x with
    | none => rw [hr _ (by simp; omega)]; simp [hf]
    | some y => rw [hr _ (by simp; omega)]; simp [hf]
theorem eqs_loop {α V β : Type} [DecidableEq α] (a b : List α) (hl : a.length = b.length) (h : a.length ≤ 1099511627776) (st : Nat → V) (K no : Option β) {F : (V → Option β) → V → Option β} {v : V} (hv : v = st 0)
    (h0 : ∀ rec, F rec (st a.length) = K) (h1 : ∀ rec k x y, a[k]? = some x → b[k]? = some y → k < a.length → F rec (st k) = if x = y then rec (st (k + 1)) else no) :
    iter F NN v = if a = b then K else no := by
  refine (iter_list0 a (by omega) (fun k (_ : Unit) => st k) () (fun l k _ => if l = b.drop k then K else no) hv ?_ ?_).trans (by simp)
  · intro rec _
    rw [h0, hl, List.drop_length]
    simp
  · intro rec k x _ hx hk hr
    have hkb : k < b.length := by omega
    have hy : b[k]? = some b[k] := List.getElem?_eq_getElem hkb
    rw [h1 rec k x _ hx hy hk, hr (), List.drop_eq_getElem_cons hkb]
    by_cases e : x = b[k]
    · rw [if_pos e]
      simp only [List.cons.injEq, e, true_and]
    · rw [if_neg e, if_neg fun h => e (List.cons.inj h).1]
theorem len_bne {α : Type} {a b : List α} (h : a.length = b.length) : (((a.length : Nat) : Int) != ((b.length : Nat) : Int)) = false := by simp [h]
theorem len_bne' {α : Type} {a b : List α} (h : ¬ a.length = b.length) : (((a.length : Nat) : Int) != ((b.length : Nat) : Int)) = true := by simp; omega
theorem ne_of_len {α : Type} {a b : List α} (h : ¬ a.length = b.length) : ¬ a = b := fun e => h (by rw [e])
theorem sEqualInts_v (a b : List Int) (h : Sm a) : S_sEqualInts a b = some (decide (a = b)) := by
  unfold Sm at h
  unfold S_sEqualInts
  simp only [rC_v, rT_ss, rT_so, rT_oo, rT_uu, len_i, rws_i, geti_i]
  by_cases hl : a.length = b.length
  · rw [len_bne hl, cnd_ff]
    refine (eqs_loop a b hl (by omega) (fun k => (a, b, (k : Int))) (some true) (some false) rfl ?_ ?_).trans (by split <;> simp_all)
    · intro rec; simp
    · intro rec k x y hx hy hk
      simp [hk, getZ_at hx, getZ_at hy, W_n1 (show k ≤ 9223372036854775806 by omega), cnd_if]
  · rw [len_bne' hl, cnd_tt]
    simp [ne_of_len hl]
theorem NN_64 : ∃ n, NN = n + 64 := ⟨NN - 64, by rw [NN_eq]⟩
def crossI (a b c d : Int) : Bool := if a = b ∨ a = c ∨ a = d ∨ b = c ∨ b = d ∨ c = d then false else (decide (Int.tmod (c - a + 8) 8 < Int.tmod (b - a + 8) 8) != decide (Int.tmod (d - a + 8) 8 < Int.tmod (b - a + 8) 8))
def arm (n : Int) : Prop := n = 0 ∨ n = 1 ∨ n = 2 ∨ n = 3
set_option maxRecDepth 100000 in
theorem sInterleave_v {a b c d : Int} (ha : arm a) (hb : arm b) (hc : arm c) (hd : arm d) : S_sInterleave (2 * a) (2 * b + 1) (2 * c) (2 * d + 1) = some (crossI (2 * a) (2 * b + 1) (2 * c) (2 * d + 1)) := by
  unfold S_sInterleave
  obtain ⟨n, hn⟩ := NN_64
  rw [hn]
  rcases ha with rfl | rfl | rfl | rfl <;> rcases hb with rfl | rfl | rfl | rfl <;> rcases hc with rfl | rfl | rfl | rfl <;> rcases hd with rfl | rfl | rfl | rfl <;> rfl
def conflict (a b : Path) : Bool :=
  if isPath a = false ∨ isPath b = false then false
  else if a.kind = 2 ∧ b.kind = 2 then false
  else if a.kind = 2 then b.src == a.src || b.dst == a.src
  else if b.kind = 2 then a.src == b.src || a.dst == b.src
  else if a.src = b.src then false
  else if a.dst = b.dst then true
  else crossI (2 * a.src) (2 * a.dst + 1) (2 * b.src) (2 * b.dst + 1)
theorem arm_src {p : Path} (h : isPath p = true) : arm p.src := by
  simp [isPath, inR] at h
  unfold arm; omega
theorem arm_dst {p : Path} (h : isPath p = true) : arm p.dst := by
  simp [isPath, inR] at h
  unfold arm; omega
theorem sInPlace_v {n : Int} (h : arm n) : S_sInPlace n = some (2 * n) := by rcases h with rfl | rfl | rfl | rfl <;> rfl
theorem sOutPlace_v {n : Int} (h : arm n) : S_sOutPlace n = some (2 * n + 1) := by rcases h with rfl | rfl | rfl | rfl <;> rfl
theorem sConflict_v (a b : Path) : S_sConflict a b = some (conflict a b) := by
  unfold S_sConflict conflict
  simp only [sIsPath_v, bnd_some]
  cases ha : isPath a with
  | false => simp
  | true =>
  cases hb : isPath b with
  | false => simp
  | true =>
  simp [sInPlace_v (arm_src ha), sOutPlace_v (arm_dst ha), sInPlace_v (arm_src hb), sOutPlace_v (arm_dst hb), sInterleave_v (arm_src ha) (arm_dst ha) (arm_src hb) (arm_dst hb), cnd_if]
  grind
def has (l : List Int) (n : Int) : Bool := l.any fun x => x == n
theorem sl6Has_v (l : List Int) (n : Int) (h : Sm l) : S_sl6Has l n = some (has l n) := by
  unfold Sm at h
  unfold S_sl6Has has
  simp
  refine (iter_list0 l (by omega) (fun k (_ : Unit) => (l, n, (k : Int))) () (fun s _ _ => some (s.any fun x => x == n)) rfl ?_ ?_).trans (by simp)
  · intro rec _; simp
  · intro rec k x _ hx hk hr
    have hr' := hr ()
    simp only [Int.natCast_succ] at hr'
    simp [hk, getZ_at hx, W_n1 (show k ≤ 9223372036854775806 by omega), cnd_if]
    by_cases e : x = n
    · simp [e]
    · simp [e, hr']
theorem findIdx_some' {α : Type} (p : α → Bool) : ∀ l : List α, (l.findIdx? p).isSome = l.any p
  | [] => rfl
  | x :: l => by
    rw [List.findIdx?_cons, List.any_cons]
    cases p x with
    | true => rfl
    | false => simp [findIdx_some' p l]
theorem find_loop {α V β : Type} (l : List α) (p : α → Bool) (hl : l.length ≤ 1099511627776) (st : Nat → V) (K : Nat → Option β) (no : Option β) {F : (V → Option β) → V → Option β} {v : V} (hv : v = st 0)
    (h0 : ∀ rec, F rec (st l.length) = no)
    (h1 : ∀ rec k x, l[k]? = some x → k < l.length → F rec (st k) = if p x = true then K k else rec (st (k + 1))) : iter F NN v = match l.findIdx? p with | some i => K i | none => no := by
  refine (iter_list0 l (by omega) (fun k (_ : Unit) => st k) () (fun s k _ => match s.findIdx? p with | some i => K (k + i) | none => no) hv ?_ ?_).trans ?_
  · intro rec _
    rw [h0]; simp
  · intro rec k x _ hx hk hr
    rw [h1 rec k x hx hk, List.findIdx?_cons]
    cases p x with
    | true => simp
    | false =>
      rw [if_neg (by simp), hr ()]
      cases (l.drop (k + 1)).findIdx? p with
      | none => simp
      | some i => simp; congr 1; omega
  · cases l.findIdx? p <;> simp
def findPath (l : List Path) (id : Int) : Int := match l.findIdx? (fun p => p.id == id) with | some i => (i : Int) | none => -1
theorem sFindPath_v (l : List Path) (id : Int) (h : Sm l) : S_sFindPath l id = some (findPath l id) := by
  unfold Sm at h
  unfold S_sFindPath findPath
  simp
  refine (find_loop l (fun p => p.id == id) (by omega) (fun k => (l, id, (k : Int))) (fun k => some (k : Int)) (some (-1)) rfl ?_ ?_).trans ?_
  · intro rec; simp
  · intro rec k x hx hk
    simp [hk, getZ_at hx, W_n1 (show k ≤ 9223372036854775806 by omega), cnd_if]
  · cases l.findIdx? _ <;> rfl
theorem iFindPath_v (l : List Path) (id : Int) (h : Sm l) : S_iFindPath l id = some (findPath l id) := by
  unfold Sm at h
  unfold S_iFindPath S_slices_IndexFunc_Path_Path S_iFindPath_1 findPath
  simp
  refine (find_loop l (fun p => p.id == id) (by omega) (fun k => (l, id, (l.length : Int), (k : Int))) (fun k => some (k : Int)) (some (-1)) rfl ?_ ?_).trans ?_
  · intro rec; simp
  · intro rec k x hx hk
    simp [hk, getZ_at hx, W_n1 (show k ≤ 9223372036854775806 by omega), cnd_if]
  · cases l.findIdx? _ <;> rfl
theorem findPath_lt {l : List Path} {id : Int} (h : ¬ findPath l id < 0) : ∃ (i : Nat) (x : Path), l[i]? = some x ∧ findPath l id = (i : Int) ∧ x.id = id := by
  unfold findPath at h ⊢
  cases hf : l.findIdx? (fun p => p.id == id) with
  | none => rw [hf] at h; simp at h
  | some i =>
    have := List.findIdx?_eq_some_iff_getElem.1 hf
    obtain ⟨h1, h2, _⟩ := this
    exact ⟨i, l[i], List.getElem?_eq_getElem h1, rfl, by simpa using h2⟩
def pathAt (l : List Path) (id : Int) : Path := (l[(findPath l id).toNat]?).getD default
theorem getZ_find {β : Type} {l : List Path} {id : Int} (h : ¬ findPath l id < 0) (K : Path → Option β) : getZ l (findPath l id) K = K (pathAt l id) := by
  obtain ⟨i, x, h1, h2, _⟩ := findPath_lt h
  unfold pathAt
  rw [h2, getZ_at h1, Int.toNat_natCast, h1]
  rfl
def prevOk (ids : List Int) (k : Nat) (x : Int) : Bool := if k = 0 then true else match ids[k - 1]? with | some y => decide (y < x) | none => true
def noClash (l : List Path) (x y : Int) : Bool := !conflict (pathAt l x) (pathAt l y)
def goT (l : List Path) (ids : List Int) : Nat → List Int → Bool
  | _, [] => true
  | k, x :: r => !decide (findPath l x < 0) && prevOk ids k x && (ids.take k).all (noClash l x) && goT l ids (k + 1) r
def together (l : List Path) (ids : List Int) : Bool := goT l ids 0 ids && arePaths l
theorem take_at' {α : Type} {l : List α} {k j : Nat} {x : α} (h : (l.take k)[j]? = some x) : l[j]? = some x := by
  rw [List.getElem?_take] at h
  split at h
  · exact h
  · cases h
theorem mem_take_succ {α : Type} {l : List α} {k : Nat} {x y : α} (hx : l[k]? = some x) (h : y ∈ l.take (k + 1)) : y ∈ l.take k ∨ y = x := by
  rw [List.take_add_one, hx] at h
  simpa using h
theorem sIsTogether_v (l : List Path) (ids : List Int) (h : Sm l) (hi : Sm ids) : S_sIsTogether l ids = some (together l ids) := by
  unfold S_sIsTogether together
  simp
  have hi' := hi
  unfold Sm at hi'
  refine (iter_listJ ids (by omega) (fun k (_ : Unit) => (l, ids, (k : Int))) () (fun k _ => ∀ y ∈ ids.take k, ¬ findPath l y < 0) (by simp) (fun s k _ => some (goT l ids k s && arePaths l)) rfl ?_ ?_).trans rfl
  · intro rec _ _
    simp [sArePaths_v l h, goT]
  · intro rec k x _ hJ hx hk hr
    simp only [Int.natCast_succ] at hr
    have hk2 : k ≤ 9223372036854775806 := by omega
    simp [hk, getZ_at hx, sFindPath_v l _ h, goT]
    by_cases c1 : findPath l x < 0
    · simp [c1]
    have hr' := hr () fun y hy => by
      rcases mem_take_succ hx hy with h1 | rfl
      · exact hJ y h1
      · exact c1
    simp only [c1, decide_false, cnd_ff, Bool.not_false, Bool.true_and]
    have hlen : (ids.take k).length = k := by rw [List.length_take]; omega
    generalize hI : iter (_ : (List Path × List Int × Int × Int × Int → Option Bool) → _ → Option Bool) NN _ = I
    have hI' : I = if (ids.take k).all (noClash l x) = true then some (goT l ids (k + 1) (ids.drop (k + 1)) && arePaths l) else some false := by
      rw [← hI]
      refine all_loop (ids.take k) (noClash l x) (by omega) (fun j => (l, ids, (k : Int), findPath l x, (j : Int))) _ _ rfl ?_ ?_
      · intro rec'
        simp [hlen, W_n1 hk2, hr']
      · intro rec' j y hy hj
        have hy' := take_at' hy
        have hj' : j < k := by omega
        simp [hj', getZ_find c1, getZ_at hy', sFindPath_v l _ h, getZ_find (hJ y (mem_at hy)), sConflict_v, W_n1 (show j ≤ 9223372036854775806 by omega), cnd_if, noClash]
        cases conflict (pathAt l x) (pathAt l y) <;> simp
    rw [hI']
    generalize (ids.take k).all (noClash l x) = A
    by_cases h0 : k = 0
    · subst h0
      simp [prevOk]
      cases A <;> simp
    · have hz : ids[k - 1]? = some ids[k - 1] := List.getElem?_eq_getElem (by omega)
      have hk1 : W ((k : Int) - 1) = ((k - 1 : Nat) : Int) := by rw [W_id (by omega) (by omega)]; omega
      simp [show 0 < k by omega, hk1, getZ_at hz]
      rw [show prevOk ids k x = decide (ids[k - 1] < x) by unfold prevOk; simp [h0, hz]]
      by_cases c4 : x ≤ ids[k - 1]
      · simp [c4, show ¬ ids[k - 1] < x by omega]
      · simp [c4, show ids[k - 1] < x by omega]
        cases A <;> simp
@[simp] theorem rws_app_i' {β : Type} (l : List Int) (s : Int) (K : List Int → Option β) : rws iR (l.map iR.enc ++ [[I s]]) K = K (l ++ [s]) :=
  (congrArg (fun z => rws iR z K) (List.map_append (f := iR.enc) (l₁ := l) (l₂ := [s])).symm).trans (rws_enc iR (l ++ [s]) K)
@[simp] theorem bnd_id' {α : Type} (x : Option α) : bnd x (fun r => some r) = x := by cases x <;> rfl
theorem filter_loop {α β V : Type} (l : List α) (p : α → Bool) (hl : l.length ≤ 1099511627776) (st : Nat → List α → V) (K : List α → Option β) {F : (V → Option β) → V → Option β} {v : V} (hv : v = st 0 [])
    (h0 : ∀ rec acc, acc.length ≤ l.length → F rec (st l.length acc) = K acc)
    (h1 : ∀ rec k x acc, l[k]? = some x → k < l.length → acc.length ≤ k → F rec (st k acc) = rec (st (k + 1) (if p x = true then acc ++ [x] else acc))) : iter F NN v = K (l.filter p) := by
  refine (iter_listJ l (by omega) st [] (fun k acc => acc.length ≤ k) (Nat.le_refl _) (fun s _ acc => K (acc ++ s.filter p)) hv ?_ ?_).trans (by simp)
  · intro rec acc h
    rw [h0 rec acc h]
    simp
  · intro rec k x acc h hx hk hr
    rw [h1 rec k x acc hx hk h]
    cases hp : p x with
    | true => rw [if_pos rfl, hr _ (by simp; omega), List.filter_cons_of_pos hp]; simp
    | false => rw [if_neg (by simp), hr _ (by omega), List.filter_cons_of_neg (by simp [hp])]
def closes (a b : List Int) : List Int := a.filter fun x => !has b x
theorem sCloses_v (a b : List Int) (h : Sm a) (hb : Sm b) : S_sCloses a b = some (closes a b) := by
  have h' := h
  unfold Sm at h'
  unfold S_sCloses closes
  simp
  refine (filter_loop a (fun x => !has b x) (by omega) (fun k acc => (a, b, acc, (k : Int))) some rfl ?_ ?_)
  · intro rec acc ha; simp
  · intro rec k x acc hx hk ha
    simp [hk, getZ_at hx, sl6Has_v b _ hb, W_n1 (show k ≤ 9223372036854775806 by omega), show (acc.length + 1) * 8 ≤ 140737488355328 by omega, show acc.length ≤ 1152921504606846975 by omega]
    cases has b x <;> simp
theorem goT_find {l : List Path} {ids : List Int} : ∀ {s : List Int} {k : Nat}, goT l ids k s = true → ∀ x ∈ s, ¬ findPath l x < 0
  | [], _, _ => fun x hx => by cases hx
  | y :: s, k, h => fun x hx => by
    simp only [goT, Bool.and_eq_true, Bool.not_eq_true', decide_eq_false_iff_not] at h
    rcases List.mem_cons.1 hx with rfl | hx
    · exact h.1.1.1
    · exact goT_find h.2 x hx
theorem together_find {l : List Path} {ids : List Int} (h : together l ids = true) : ∀ x ∈ ids, ¬ findPath l x < 0 := by
  simp only [together, Bool.and_eq_true] at h
  exact goT_find h.1
theorem closes_sub {a b : List Int} {x : Int} (h : x ∈ closes a b) : x ∈ a := (List.mem_filter.1 h).1
theorem closes_sm {a b : List Int} (h : Sm a) : Sm (closes a b) := Nat.le_trans (List.length_filter_le _ _) h
def most (n c : Int) : Int := if n < c then c else n
def stepC (l : List Path) (x : Int) (n y : Int) : Int := if conflict (pathAt l x) (pathAt l y) then most n (clearOf (pathAt l x)) else n
def clearBetween (l : List Path) (a b : List Int) : Int :=
  if together l a = true ∧ together l b = true then (closes a b).foldl (fun n x => (closes b a).foldl (stepC l x) n) 0 else 0
theorem sClearBetween_v (l : List Path) (a b : List Int) (h : Sm l) (ha : Sm a) (hb : Sm b) : S_sClearBetween l a b = some (clearBetween l a b) := by
  unfold S_sClearBetween clearBetween
  simp [sCloses_v _ _ ha hb, sCloses_v _ _ hb ha]
  have hA := closes_sm (b := b) ha
  have hB := closes_sm (b := a) hb
  unfold Sm at hA hB
  refine (iter_list0 (closes a b) (by omega) (fun k n => (l, a, b, n, closes a b, closes b a, (k : Int))) 0 (fun s _ n => some (if together l a = true ∧ together l b = true then s.foldl (fun n x => (closes b a).foldl (stepC l x) n) n else n)) rfl ?_ ?_).trans rfl
  · intro rec n; simp
  · intro rec k x n hx hk hr
    simp only [Int.natCast_succ] at hr
    simp [hk, getZ_at hx, sIsTogether_v l _ h ha, sIsTogether_v l _ h hb]
    cases t1 : together l a with
    | false => simp
    | true =>
    cases t2 : together l b with
    | false => simp
    | true =>
    simp only [t1, t2, and_self, if_true] at hr
    simp
    have hfx := together_find t1 x (closes_sub (mem_at hx))
    refine (iter_list0 (closes b a) (by omega) (fun j n => (l, a, b, n, closes a b, closes b a, (k : Int), (j : Int))) n (fun s _ n => rec (l, a, b, s.foldl (stepC l x) n, closes a b, closes b a, (k : Int) + 1)) rfl ?_ ?_).trans ?_
    · intro rec' n
      simp [W_n1 (show k ≤ 9223372036854775806 by omega)]
    · intro rec' j y n hy hj hr'
      simp only [Int.natCast_succ] at hr'
      have hfy := together_find t2 y (closes_sub (mem_at hy))
      simp [hj, getZ_at hx, getZ_at hy, sFindPath_v l _ h, getZ_find hfx, getZ_find hfy, sConflict_v, sClearOf_v, sMax_v, W_n1 (show j ≤ 9223372036854775806 by omega), cnd_if]
      cases hc : conflict (pathAt l x) (pathAt l y) <;> simp [stepC, most, hc, hr']
    · simp [hr]
def isControl (l : List Path) (x : Control) : Bool :=
  !x.stage.isEmpty && together l x.stage && together l x.next && inR x.since 0 1000000 && (if x.next = [] then x.left == 0 else inR x.left 1 (clearBetween l x.stage x.next))
theorem len0 {α : Type} (l : List α) : (((l.length : Nat) : Int) == 0) = l.isEmpty := by
  cases l with
  | nil => rfl
  | cons x l => simp; omega
theorem sIsControl_v (l : List Path) (x : Control) (h : Sm l) (hx : SmControl x) : S_sIsControl l x = some (isControl l x) := by
  obtain ⟨h1, h2⟩ := hx
  unfold S_sIsControl isControl
  simp only [rC_v, rT_ss, rT_so, rT_oo, rT_uu, rws_path, rws_i, len_i, len0, sIsTogether_v l _ h h1, sIsTogether_v l _ h h2, sClearBetween_v l _ _ h h1 h2, sl1In_r, bnd_some]
  cases x.stage.isEmpty <;> cases together l x.stage <;> cases together l x.next <;> cases inR x.since 0 1000000 <;> cases hn : x.next <;> simp
theorem map_loop {α β V : Type} (l : List α) (f : α → Int) (hl : l.length ≤ 1099511627776) (st : Nat → List Int → V) (K : List Int → Option β) {F : (V → Option β) → V → Option β} {v : V} (hv : v = st 0 [])
    (h0 : ∀ rec acc, acc.length = l.length → F rec (st l.length acc) = K acc)
    (h1 : ∀ rec k x acc, l[k]? = some x → k < l.length → acc.length = k → F rec (st k acc) = rec (st (k + 1) (acc ++ [f x]))) : iter F NN v = K (l.map f) := by
  refine (iter_listJ l (by omega) st [] (fun k acc => acc.length = k) rfl (fun s _ acc => K (acc ++ s.map f)) hv ?_ ?_).trans (by simp)
  · intro rec acc h
    rw [h0 rec acc h]
    simp
  · intro rec k x acc h hx hk hr
    rw [h1 rec k x acc hx hk h, hr _ (by simp [h])]
    simp
def lightAt (x : Control) (id : Int) : Int := if has x.stage id then (if x.next.isEmpty = false ∧ has x.next id = false then 2 else 1) else 0
def lightsOf (l : List Path) (x : Control) : List Int := if isControl l x then l.map (fun p => lightAt x p.id) else []
theorem len1 {α : Type} (l : List α) : decide (((l.length : Nat) : Int) > 0) = !l.isEmpty := by
  cases l with
  | nil => rfl
  | cons x l => simp
theorem sLightsOf_v (l : List Path) (x : Control) (h : Sm l) (hx : SmControl x) : S_sLightsOf l x = some (lightsOf l x) := by
  have hx' := hx
  obtain ⟨h1, h2⟩ := hx
  have hl := h
  unfold Sm at hl
  unfold S_sLightsOf lightsOf
  simp only [rC_v, rT_ss, rT_so, rT_oo, rT_uu, rws_path, rws_i, len_path, eta_Control]
  cases hc : isControl l x with
  | false =>
    refine (iter_list0 l (by omega) (fun k (_ : Unit) => ((l, ([] : List Int), (k : Int)), x)) () (fun _ _ _ => some []) rfl ?_ ?_).trans rfl
    · intro rec _
      simp
    · intro rec k p _ hp hk _
      simp [hk, sIsControl_v l x h hx', hc]
  | true =>
  simp only [if_true]
  refine map_loop l (fun p => lightAt x p.id) (by omega) (fun k acc => ((l, acc, (k : Int)), x)) some rfl ?_ ?_
  · intro rec acc ha
    simp
  · intro rec k p acc hp hk ha
    simp [hk, getZ_at hp, sIsControl_v l x h hx', hc, sl6Has_v _ _ h1, sl6Has_v _ _ h2, W_n1 (show k ≤ 9223372036854775806 by omega), ha, show (k + 1) * 8 ≤ 140737488355328 by omega, show k ≤ 1152921504606846975 by omega, len1]
    unfold lightAt
    cases has x.stage p.id with
    | false => simp
    | true =>
      cases hn : x.next with
      | nil => simp
      | cons y r =>
        simp [cnd_if]
        cases has (y :: r) p.id <;> simp
theorem sl33All_v (t : Town) (n : Int) (h : Sm t.paths) : S_sl33All t n = some (t.paths.map fun _ => n) := by
  unfold Sm at h
  unfold S_sl33All
  simp
  refine map_loop t.paths (fun _ => n) (by omega) (fun k acc => ((n, acc, (k : Int)), t)) some rfl ?_ ?_
  · intro rec acc ha
    simp
  · intro rec k p acc hp hk ha
    simp [hk, W_n1 (show k ≤ 9223372036854775806 by omega), ha, show (k + 1) * 8 ≤ 140737488355328 by omega, show k ≤ 1152921504606846975 by omega]
theorem findIdx_some {α : Type} (p : α → Bool) (l : List α) : (l.findIdx? p).isSome = l.any p := findIdx_some' p l
def lampOk (l : List Path) (p : Lamp) : Bool := !decide (findPath l p.path < 0) && inR p.colour 0 1
def noDup (p q : Lamp) : Bool := !(q.path == p.path && q.colour == p.colour)
def goL (l : List Path) (x : List Lamp) : Nat → List Lamp → Bool
  | _, [] => true
  | k, p :: r => lampOk l p && (x.take k).all (noDup p) && goL l x (k + 1) r
def areLamps (l : List Path) (x : List Lamp) : Bool := goL l x 0 x && arePaths l
theorem take_at {α : Type} {l : List α} {k j : Nat} {x : α} (h : (l.take k)[j]? = some x) : l[j]? = some x := by
  rw [List.getElem?_take] at h
  split at h
  · exact h
  · cases h
theorem sAreLamps_v (l : List Path) (x : List Lamp) (h : Sm l) (hx : Sm x) : S_sAreLamps l x = some (areLamps l x) := by
  unfold S_sAreLamps areLamps
  simp
  have hx' := hx
  unfold Sm at hx'
  refine (iter_list0 x (by omega) (fun k (_ : Unit) => (l, x, (k : Int))) () (fun s k _ => some (goL l x k s && arePaths l)) rfl ?_ ?_).trans rfl
  · intro rec _
    simp [sArePaths_v l h, goL]
  · intro rec k p _ hp hk hr
    simp only [Int.natCast_succ] at hr
    have hk2 : k ≤ 9223372036854775806 := by omega
    simp [hk, getZ_at hp, sFindPath_v l _ h, sl1In_r, goL, lampOk]
    by_cases c1 : findPath l p.path < 0
    · simp [c1]
    simp only [c1, decide_false, cnd_ff, Bool.not_false, Bool.true_and]
    cases c2 : inR p.colour 0 1 with
    | false => simp
    | true =>
    simp only [Bool.not_true, cnd_ff, Bool.true_and]
    have hlen : (x.take k).length = k := by rw [List.length_take]; omega
    refine (all_loop (x.take k) (noDup p) (by omega) (fun j => (l, x, (k : Int), (j : Int))) (some (goL l x (k + 1) (x.drop (k + 1)) && arePaths l)) (some false) rfl ?_ ?_).trans ?_
    · intro rec'
      simp [hlen, W_n1 hk2]
      exact hr ()
    · intro rec' j q hq hj
      have hq' := take_at hq
      have hj' : j < k := by omega
      simp [hj', getZ_at hq', getZ_at hp, W_n1 (show j ≤ 9223372036854775806 by omega), cnd_if]
      by_cases e1 : q.path = p.path <;> by_cases e2 : q.colour = p.colour <;> simp [e1, e2, noDup]
    · generalize (x.take k).all (noDup p) = A
      cases A <;> simp
theorem iAreLamps_v (l : List Path) (x : List Lamp) (h : Sm l) (hx : Sm x) : S_iAreLamps l x = some (areLamps l x) := by
  unfold S_iAreLamps areLamps
  simp [iArePaths_v l h]
  have hx' := hx
  unfold Sm at hx'
  cases hp : arePaths l with
  | false => simp
  | true =>
  simp
  refine (iter_list0 x (by omega) (fun k (_ : Unit) => (l, x, x, (x.length : Int), (k : Int))) () (fun s k _ => some (goL l x k s)) rfl ?_ ?_).trans rfl
  · intro rec _
    simp [goL]
  · intro rec k p _ hp hk hr
    simp only [Int.natCast_succ] at hr
    have hk2 : k ≤ 9223372036854775806 := by omega
    simp [hk, getZ_at hp, iFindPath_v l _ h, goL, lampOk]
    by_cases c1 : findPath l p.path < 0
    · simp [c1]
    simp only [c1, decide_false, cnd_ff, Bool.not_false, Bool.true_and]
    have hlen : (x.take k).length = k := by rw [List.length_take]; omega
    generalize hI : iter (_ : ((List Path × List Lamp × List Lamp × Int × Int × List Lamp × Int × Int) × Lamp → Option Bool) → _ → Option Bool) NN _ = I
    have hI' : I = if (x.take k).all (noDup p) = true then some (goL l x (k + 1) (x.drop (k + 1))) else some false := by
      rw [← hI]
      refine all_loop (x.take k) (noDup p) (by omega) (fun j => ((l, x, x, (x.length : Int), (k : Int), x.take k, ((x.take k).length : Int), (j : Int)), p)) _ _ (by simp) ?_ ?_
      · intro rec'
        simp [hlen, W_n1 hk2]
        exact hr ()
      · intro rec' j q hq hj
        have hj' : j < k := by omega
        simp [hlen, hj', getZ_at hq, W_n1 (show j ≤ 9223372036854775806 by omega), cnd_if]
        by_cases e1 : p.path = q.path <;> by_cases e2 : p.colour = q.colour <;> simp [e1, e2, noDup, show k ≤ x.length by omega]
        all_goals first | done | (intro h1; exact absurd h1.symm e1) | grind
    rw [hI']
    generalize (x.take k).all (noDup p) = A
    by_cases e0 : p.colour = 0
    · simp [e0, inR, show k ≤ x.length by omega]
      cases A <;> simp
    · by_cases e1 : p.colour = 1
      · simp [e1, inR, show k ≤ x.length by omega]
        cases A <;> simp
      · rw [show inR p.colour 0 1 = false by simp [inR]; omega]
        simp [e0, e1, cnd_if]
def badLamp (q : Lamp) : Bool := q.colour == 0 && q.broken
def anyBad (x : List Lamp) : Bool := x.any badLamp
def mode (l : List Path) (x : List Lamp) (p : Bool) : Int := if p = false then 2 else if anyBad x then 1 else if areLamps l x then 0 else 1
theorem sModeFor_v (l : List Path) (x : List Lamp) (p : Bool) (h : Sm l) (hx : Sm x) : S_sModeFor l x p = some (mode l x p) := by
  unfold S_sModeFor mode
  have hx' := hx
  unfold Sm at hx'
  cases p with
  | false => rfl
  | true =>
  simp
  refine (all_loop x (fun q => !badLamp q) (by omega) (fun k => (l, x, (k : Int))) (some (if areLamps l x then 0 else 1)) (some 1) rfl ?_ ?_).trans ?_
  · intro rec
    simp [sAreLamps_v l x h hx]
    cases areLamps l x <;> rfl
  · intro rec k q hq hk
    simp [hk, getZ_at hq, W_n1 (show k ≤ 9223372036854775806 by omega), cnd_if]
    by_cases e1 : q.colour = 0 <;> cases e2 : q.broken <;> simp [e1, e2, badLamp]
  · have hB : anyBad x = !x.all (fun q => !badLamp q) := by rw [List.not_all_eq_any_not]; simp [anyBad]
    generalize x.all (fun q => !badLamp q) = A at hB ⊢
    rw [hB]
    cases A <;> simp
theorem iModeFor_v (l : List Path) (x : List Lamp) (p : Bool) (h : Sm l) (hx : Sm x) : S_iModeFor l x p = some (mode l x p) := by
  unfold S_iModeFor mode
  have hx' := hx
  unfold Sm at hx'
  cases p with
  | false => rfl
  | true =>
  have key : S_slices_ContainsFunc_Lamp_Lamp x = some (anyBad x) := by
    unfold S_slices_ContainsFunc_Lamp_Lamp S_slices_IndexFunc_Lamp_Lamp S_iModeFor_1
    simp
    generalize hI : iter (_ : (List Lamp × Unit × Int × Int → Option Int) → _ → Option Int) NN _ = I
    have hI' : I = match x.findIdx? badLamp with | some i => some (i : Int) | none => some (-1) := by
      rw [← hI]
      refine find_loop x badLamp (by omega) (fun k => (x, (), (x.length : Int), (k : Int))) (fun k => some (k : Int)) (some (-1)) rfl ?_ ?_
      · intro rec; simp
      · intro rec k q hq hk
        simp [hk, getZ_at hq, W_n1 (show k ≤ 9223372036854775806 by omega), cnd_if]
        by_cases e1 : q.colour = 0 <;> cases e2 : q.broken <;> simp [e1, e2, badLamp]
    rw [hI']
    have hB : anyBad x = (x.findIdx? badLamp).isSome := by rw [findIdx_some]; rfl
    rw [hB]
    cases x.findIdx? badLamp <;> simp
  simp [iAreLamps_v l x h hx, key]
  cases areLamps l x <;> cases anyBad x <;> rfl
def lightsNow (t : Town) : List Int := if mode t.paths t.lamps t.power = 0 then lightsOf t.paths t.control else t.paths.map fun _ => 0
theorem sLightsNow_v (t : Town) (h : SmTown t) : S_sLightsNow t = some (lightsNow t) := by
  obtain ⟨h0, h1, h2, h3, h4⟩ := h
  have e1 : S_sModeOf t = some (mode t.paths t.lamps t.power) := by unfold S_sModeOf; simp [sModeFor_v _ _ _ h0 h3]
  unfold S_sLightsNow lightsNow
  simp only [rC_v, rT_ss, rT_so, rT_oo, rT_uu, rws_path, rws_want, rws_lamp, rws_i, rws_note_ss, rws_note_so, rws_note_oo, eta_Control, eta_Town, e1, bnd_some, bnd_id', sLightsOf_v _ _ h0 h1, sl33All_v t 0 h0, cnd_if, beq_iff_eq]
  split <;> rfl
def clear2 (x q : Path × Int) : Bool := !(x.2 != 0 && q.2 != 0 && conflict x.1 q.1)
def goS (z : List (Path × Int)) : Nat → List (Path × Int) → Bool
  | _, [] => true
  | k, x :: r => inR x.2 0 2 && (z.take k).all (clear2 x) && goS z (k + 1) r
def isSafe (l : List Path) (v : List Int) : Bool := arePaths l && decide (v.length = l.length) && goS (l.zip v) 0 (l.zip v)
theorem zip_at {l : List Path} {v : List Int} {k : Nat} {x : Path × Int} (h : (l.zip v)[k]? = some x) : l[k]? = some x.1 ∧ v[k]? = some x.2 := by
  rw [List.getElem?_zip_eq_some] at h
  exact h
theorem sIsSafeLights_v (l : List Path) (v : List Int) (h : Sm l) : S_sIsSafeLights l v = some (isSafe l v) := by
  have hl := h
  unfold Sm at hl
  unfold S_sIsSafeLights isSafe
  simp only [rC_v, rT_ss, rT_so, rT_oo, rT_uu, rws_path, rws_i, len_path, len_i, sArePaths_v l h, bnd_some]
  cases hp : arePaths l with
  | false => simp
  | true =>
  by_cases hn : v.length = l.length
  · have hz : (l.zip v).length = l.length := by rw [List.length_zip]; omega
    rw [show (((v.length : Nat) : Int) != ((l.length : Nat) : Int)) = false by simp [hn]]
    simp [hn]
    refine (iter_list0 (l.zip v) (by omega) (fun k (_ : Unit) => (l, v, (k : Int))) () (fun s k _ => some (goS (l.zip v) k s)) rfl ?_ ?_).trans rfl
    · intro rec _
      simp [goS, hz]
    · intro rec k x _ hx hk hr
      obtain ⟨x1, x2⟩ := zip_at hx
      have hr' := hr ()
      simp only [Int.natCast_succ] at hr'
      have hk' : k < l.length := by omega
      have hlen : ((l.zip v).take k).length = k := by rw [List.length_take]; omega
      simp [hk', getZ_at x2, sl1In_r, goS]
      cases inR x.2 0 2 with
      | false => simp
      | true =>
      simp
      refine (all_loop ((l.zip v).take k) (clear2 x) (by omega) (fun j => (l, v, (k : Int), (j : Int))) (some (goS (l.zip v) (k + 1) ((l.zip v).drop (k + 1)))) (some false) rfl ?_ ?_).trans ?_
      · intro rec'
        simp [hlen, W_n1 (show k ≤ 9223372036854775806 by omega), hr']
      · intro rec' j y hy hj
        obtain ⟨y1, y2⟩ := zip_at (take_at' hy)
        have hj' : j < k := by omega
        simp [hj', getZ_at x2, getZ_at y2, getZ_at x1, getZ_at y1, sConflict_v, W_n1 (show j ≤ 9223372036854775806 by omega), clear2, cnd_if]
        by_cases c1 : x.2 = 0 <;> by_cases c2 : y.2 = 0 <;> cases c3 : conflict x.1 y.1 <;> simp [c1, c2, c3]
      · generalize ((l.zip v).take k).all (clear2 x) = A
        cases A <;> simp
  · rw [show (((v.length : Nat) : Int) != ((l.length : Nat) : Int)) = true by simp; omega]
    simp [hn]
def wantOk (l : List Path) (x : Want) : Bool := !decide (findPath l x.path < 0) && inR x.wait 0 100000
def goW (l : List Path) : Option Int → List Want → Bool
  | _, [] => true
  | pv, x :: r => wantOk l x && later pv x.path && goW l (some x.path) r
def areWants (l : List Path) (w : List Want) : Bool := arePaths l && goW l none w
def prevW (l : List Want) (k : Nat) : Option Int := if k = 0 then none else (l[k - 1]?).map (·.path)
theorem prevW_succ {l : List Want} {k : Nat} {x : Want} (h : l[k]? = some x) : prevW l (k + 1) = some x.path := by
  unfold prevW
  simp [h]
theorem sAreWants_vL (l : List Path) (w : List Want) (hl : Sm l) (h : w.length ≤ 2097152) : S_sAreWants l w = some (areWants l w) := by
  unfold S_sAreWants areWants
  simp
  refine (iter_list0 w (by omega) (fun k (_ : Unit) => (l, w, (k : Int))) () (fun s k _ => some (arePaths l && goW l (prevW w k) s)) rfl ?_ ?_).trans ?_
  · intro rec _
    simp [goW, sArePaths_v l hl]
  · intro rec k x _ hx hk hr
    have hr' := hr ()
    simp only [Int.natCast_succ] at hr'
    simp [hk, getZ_at hx, sFindPath_v _ _ hl, sl1In_r, W_n1 (show k ≤ 9223372036854775806 by omega), goW, wantOk]
    by_cases hf : findPath l x.path < 0
    · simp [hf]
    cases inR x.wait 0 100000 with
    | false => simp [hf]
    | true =>
      simp [hf]
      by_cases h0 : k = 0
      · subst h0
        have hr'' : rec (l, w, 1) = some (arePaths l && goW l (some x.path) (List.drop 1 w)) := by simpa [prevW_succ hx] using hr'
        simp [hr'', prevW, later]
      · have hz : w[k - 1]? = some w[k - 1] := List.getElem?_eq_getElem (by omega)
        have hk1 : W ((k : Int) - 1) = ((k - 1 : Nat) : Int) := by rw [W_id (by omega) (by omega)]; omega
        rw [show prevW w k = some (w[k - 1]).path by unfold prevW; simp [h0, hz]]
        simp [show 0 < k by omega, hk1, getZ_at hz, hr', prevW_succ hx, later, cnd_if]
        by_cases h1 : x.path ≤ (w[k - 1]).path
        · simp [h1, show ¬ ((w[k - 1]).path < x.path) by omega]
        · simp [h1, show (w[k - 1]).path < x.path by omega]
  · simp [prevW]
theorem sAreWants_v (l : List Path) (w : List Want) (hl : Sm l) (h : Sm w) : S_sAreWants l w = some (areWants l w) := sAreWants_vL l w hl (by unfold Sm at h; omega)
def isBus (l : List Path) (id : Int) : Bool := !decide (findPath l id < 0) && (pathAt l id).kind == 3
def isPrio (l : List Path) (x : Prio) : Bool := arePaths l && (decide (x = ⟨0, 0⟩) || (isBus l x.path && inR x.left 1 20))
theorem eqB_prio0 (p : Prio) : eqB [I p.path, I p.left] [I 0, I 0] = decide (p = ⟨0, 0⟩) := by
  cases p; simp [eqB, eqV]; grind
theorem sIsPrio_v (l : List Path) (x : Prio) (hl : Sm l) : S_sIsPrio l x = some (isPrio l x) := by
  unfold S_sIsPrio isPrio isBus
  simp only [rC_v, rT_ss, rT_so, rT_oo, rT_uu, rws_path, eqB_prio0, sArePaths_v l hl, sFindPath_v _ _ hl, bnd_some, geti_path, sl1In_r, cnd_if]
  by_cases h0 : x = ⟨0, 0⟩
  · simp [h0]
  · simp only [h0, decide_false, Bool.false_or, Bool.false_eq_true, if_false]
    by_cases hf : findPath l x.path < 0
    · simp [hf, show ¬ (findPath l x.path ≥ 0) by omega]
    · simp [hf, show (0 : Int) ≤ findPath l x.path by omega, getZ_find hf]
      cases arePaths l <;> simp
      by_cases hk : (pathAt l x.path).kind = 3 <;> simp [hk]
def goU (p : List Path) : List Note → Int
  | [] => -1
  | x :: r => if isSafe p x.lights = true then goU p r else x.second
def firstUnsafe (p : List Path) (l : List Note) : Int := if isRecord l = true then goU p l else -1
theorem sFirstUnsafe_v (p : List Path) (l : List Note) (hp : Sm p) (h : Sm l ∧ ∀ y ∈ l, SmNote y) : S_sFirstUnsafe p l = some (firstUnsafe p l) := by
  have h1 := h.1
  unfold Sm at h1
  unfold S_sFirstUnsafe firstUnsafe
  simp
  refine (iter_list0 l (by omega) (fun k (_ : Unit) => (p, l, (k : Int))) () (fun s _ _ => some (if isRecord l = true then goU p s else -1)) rfl ?_ ?_).trans rfl
  · intro rec _
    simp [goU]
  · intro rec k x _ hx hk hr
    have hr' := hr ()
    simp only [Int.natCast_succ] at hr'
    simp [hk, getZ_at hx, sIsRecord_v l h, sIsSafeLights_v _ _ hp, W_n1 (show k ≤ 9223372036854775806 by omega), hr', goU, cnd_if]
    cases isRecord l <;> simp
    cases isSafe p x.lights <;> simp
def lastSec (l : List Note) : Int := match l.getLast? with | some e => e.second | none => 0
def isTown (t : Town) : Bool :=
  isControl t.paths t.control && areWants t.paths t.wants && isPrio t.paths t.prio && areLamps t.paths t.lamps && isRecord t.record && !t.record.isEmpty &&
  decide (firstUnsafe t.paths t.record = -1) && decide (firstLen t.record = t.paths.length) && decide (lastSec t.record ≤ t.now) && inR t.books 0 1000 && inR t.now 0 1000000
theorem last_at {l : List Note} (h : l ≠ []) : ∃ e, l[l.length - 1]? = some e ∧ lastSec l = e.second ∧ e ∈ l := by
  refine ⟨l.getLast h, ?_, ?_, List.getLast_mem h⟩
  · rw [List.getLast_eq_getElem h]
    exact List.getElem?_eq_getElem _
  · unfold lastSec
    rw [List.getLast?_eq_some_getLast h]
theorem sIsTown_v (t : Town) (h : SmTown t) : S_sIsTown t = some (isTown t) := by
  obtain ⟨h0, h1, h2, h3, h4⟩ := h
  have h5 := h4.1
  unfold Sm at h5
  unfold S_sIsTown isTown
  simp only [rC_v, rT_ss, rT_so, rT_oo, rT_uu, rws_path, rws_i, rws_want, rws_lamp, rws_note_ss, eta_Control, len_note, len_i, len_path, len0, sIsControl_v _ _ h0 h1, sAreWants_v _ _ h0 h2, sIsPrio_v _ _ h0, sAreLamps_v _ _ h0 h3, sIsRecord_v _ h4, sFirstUnsafe_v _ _ h0 h4, sl1In_r, bnd_some]
  cases isControl t.paths t.control <;> simp
  cases areWants t.paths t.wants <;> simp
  cases isPrio t.paths t.prio <;> simp
  cases areLamps t.paths t.lamps <;> simp
  cases hR : isRecord t.record <;> simp
  cases he : t.record.isEmpty <;> simp
  have hne : t.record ≠ [] := by intro e; rw [e] at he; cases he
  obtain ⟨e, e1, e2, e3⟩ := last_at hne
  have hpos := List.length_pos_iff.2 hne
  have hk1 : W ((t.record.length : Int) - 1) = ((t.record.length - 1 : Nat) : Int) := by rw [W_id (by omega) (by omega)]; omega
  rw [hk1, getZ_at e1, e2, (isRecord_len hR e e3).1]
  by_cases c1 : firstUnsafe t.paths t.record = -1 <;> simp [c1, cnd_if]
  by_cases c2 : firstLen t.record = t.paths.length
  case neg =>
    simp [c2]
    intro hc
    omega
  simp only [c2]
  by_cases c3 : e.second ≤ t.now <;> simp [c3]
  cases inR t.books 0 1000 <;> simp
def goAt (s : Int) : List Note → Nat → Int → Int
  | [], _, a => a
  | x :: r, k, a => goAt s r (k + 1) (if x.second ≤ s then (k : Int) else a)
def entryAt (l : List Note) (s : Int) : Int := if isRecord l = true then goAt s l 0 (-1) else -1
theorem goAt_lt {s : Int} : ∀ (l : List Note) (k : Nat) (a : Int), goAt s l k a = a ∨ ∃ i, i < l.length ∧ goAt s l k a = ((k + i : Nat) : Int)
  | [], k, a => .inl rfl
  | x :: r, k, a => by
    rw [goAt]
    rcases goAt_lt (s := s) r (k + 1) (if x.second ≤ s then (k : Int) else a) with h | ⟨i, h1, h2⟩
    · rw [h]
      split
      · exact .inr ⟨0, by simp, by simp⟩
      · exact .inl rfl
    · exact .inr ⟨i + 1, by simp; omega, by rw [h2]; congr 1; omega⟩
theorem entryAt_cases (l : List Note) (s : Int) : entryAt l s = -1 ∨ ∃ (i : Nat) (x : Note), l[i]? = some x ∧ entryAt l s = (i : Int) ∧ isRecord l = true := by
  unfold entryAt
  cases hR : isRecord l with
  | false => exact .inl (by simp)
  | true =>
    simp only [if_true]
    rcases goAt_lt (s := s) l 0 (-1) with h | ⟨i, h1, h2⟩
    · exact .inl h
    · exact .inr ⟨i, l[i], List.getElem?_eq_getElem h1, by rw [h2]; simp, trivial⟩
theorem sl28At_v (l : List Note) (s : Int) (h : Sm l ∧ ∀ y ∈ l, SmNote y) : S_sl28At l s = some (entryAt l s) := by
  have h1 := h.1
  unfold Sm at h1
  unfold S_sl28At entryAt
  simp
  refine (iter_list0 l (by omega) (fun k a => (l, s, a, (k : Int))) (-1) (fun x k a => some (if isRecord l = true then goAt s x k a else a)) rfl ?_ ?_).trans rfl
  · intro rec a
    simp [goAt]
  · intro rec k x a hx hk hr
    simp only [Int.natCast_succ] at hr
    simp [hk, getZ_at hx, sIsRecord_v l h, W_n1 (show k ≤ 9223372036854775806 by omega), hr, goAt, cnd_if]
    cases isRecord l <;> simp
    by_cases c : x.second ≤ s <;> simp [c]
def entry (l : List Note) (s : Int) : Option Note := if entryAt l s < 0 then none else l[(entryAt l s).toNat]?
def shownAt (l : List Note) (s : Int) : List Int × Bool := match entry l s with | some e => (e.lights, true) | none => ([], false)
theorem entry_cases (l : List Note) (s : Int) : (entry l s = none ∧ entryAt l s = -1) ∨ ∃ (i : Nat) (x : Note), l[i]? = some x ∧ entryAt l s = (i : Int) ∧ entry l s = some x ∧ isRecord l = true := by
  unfold entry
  rcases entryAt_cases l s with h | ⟨i, x, h1, h2, h3⟩
  · rw [h]; exact .inl ⟨rfl, rfl⟩
  · rw [h2]
    exact .inr ⟨i, x, h1, rfl, by rw [if_neg (by omega), Int.toNat_natCast, h1], h3⟩
theorem sShownAt_v (l : List Note) (s : Int) (h : Sm l ∧ ∀ y ∈ l, SmNote y) : S_sShownAt l s = some (shownAt l s) := by
  unfold S_sShownAt shownAt
  simp only [rC_v, rT_ss, rT_so, rT_oo, rT_uu, rws_note_ss, rws_note_so, rws_note_oo, sl28At_v l s h, bnd_some, geti_note_ss, geti_note_so, geti_note_oo]
  rcases entry_cases l s with ⟨h1, h2⟩ | ⟨i, x, h1, h2, h3, _⟩
  · simp [h1, h2]
  · have hx := h.2 x (mem_at h1)
    unfold SmNote Sm at hx
    simp only [rC_v, rT_ss, rT_so, rT_oo, rT_uu, h2, h3, show ¬ ((i : Int) < 0) by omega, decide_false, cnd_ff, getZ_at h1, len_i, clrs_i, rws_i]
    rw [ifA_pos (by simp; omega)]
theorem iter_downN {V β : Type} {F : (V → Option β) → V → Option β} (st : Nat → V) (G : Nat → Option β) (B : Nat) (h0 : ∀ rec, F rec (st 0) = G 0)
    (h1 : ∀ rec k, k < B → rec (st k) = G k → F rec (st (k + 1)) = G (k + 1)) : ∀ n k, k ≤ B → k < n → iter F n (st k) = G k
  | 0, k, _, h => by omega
  | n + 1, 0, _, _ => by rw [iter_succ]; exact h0 _
  | n + 1, k + 1, hk, h => by
    rw [iter_succ]
    exact h1 _ k (by omega) (iter_downN st G B h0 h1 n k (by omega) (by omega))
theorem iter_down {V β : Type} {F : (V → Option β) → V → Option β} (st : Nat → V) (G : Nat → Option β) (k : Nat) (hk : k ≤ 4611686018427387903) {v : V} (hv : v = st k) (h0 : ∀ rec, F rec (st 0) = G 0)
    (h1 : ∀ rec j, j < k → rec (st j) = G j → F rec (st (j + 1)) = G (j + 1)) : iter F NN v = G k := by
  rw [hv]
  exact iter_downN st G k h0 h1 NN k (Nat.le_refl _) (NN_big hk)
def lightShown (l : List Note) (i s : Int) : Int := match entry l s with | some e => lightOf e i | none => -1
theorem lightOf_lt {e : Note} {i : Int} (h : lightOf e i ≠ -1) : ∃ m : Nat, i = (m : Int) ∧ m < e.lights.length := by
  unfold lightOf at h
  split at h
  · rename_i h0
    refine ⟨i.toNat, by omega, ?_⟩
    split at h
    · rename_i v hv
      exact (List.getElem?_eq_some_iff.1 hv).1
    · exact absurd rfl h
  · exact absurd rfl h
theorem lightOf_at {e : Note} {m : Nat} {v : Int} (h : e.lights[m]? = some v) : lightOf e (m : Int) = v := by
  unfold lightOf
  rw [if_pos (by omega), Int.toNat_natCast, h]
theorem sLightShown_v (l : List Note) (i s : Int) (h : Sm l ∧ ∀ y ∈ l, SmNote y) : S_sLightShown l i s = some (lightShown l i s) := by
  unfold S_sLightShown lightShown
  simp only [rC_v, rT_ss, rT_so, rT_oo, rT_uu, rws_note_ss, rws_note_so, rws_note_oo, sShownAt_v l s h, bnd_some, len_i, sl1In_r, geti_i, shownAt]
  rcases entry_cases l s with ⟨h1, h2⟩ | ⟨j, x, h1, h2, h3, _⟩
  · simp only [h1, List.length_nil]
    rw [show inR i 0 (W (((0 : Nat) : Int) - 1)) = false by rw [W_id (by omega) (by omega)]; unfold inR; by_cases c : 0 ≤ i <;> simp [c]; omega]
    rfl
  · simp only [h3]
    have hx := h.2 x (mem_at h1)
    unfold SmNote Sm at hx
    rw [W_id (by omega) (by omega)]
    unfold inR lightOf
    by_cases c : 0 ≤ i
    · obtain ⟨m, rfl⟩ : ∃ m : Nat, i = (m : Int) := ⟨i.toNat, by omega⟩
      by_cases c2 : m < x.lights.length
      · have hv : x.lights[m]? = some x.lights[m] := List.getElem?_eq_getElem c2
        simp [show (m : Int) ≤ (x.lights.length : Int) - 1 by omega, getZ_at hv, hv]
      · have hv : x.lights[m]? = none := List.getElem?_eq_none (by omega)
        simp [show ¬ (m : Int) ≤ (x.lights.length : Int) - 1 by omega, hv]
    · simp [c]
def back (l : List Note) (i : Int) : Nat → Nat
  | 0 => 0
  | k + 1 => match l[k]? with
    | some e => if lightOf e i = 1 then back l i k else k + 1
    | none => k + 1
def secAt (l : List Note) (k : Nat) : Int := match l[k]? with | some e => e.second | none => 0
def greenSince (l : List Note) (i s : Int) : Int := if lightShown l i s = 1 then W (s - secAt l (back l i (entryAt l s).toNat)) else -1
theorem sGreenSince_v (l : List Note) (i s : Int) (h : Sm l ∧ ∀ y ∈ l, SmNote y) : S_sGreenSince l i s = some (greenSince l i s) := by
  have hl := h.1
  unfold Sm at hl
  unfold S_sGreenSince greenSince
  simp only [rC_v, rT_ss, rT_so, rT_oo, rT_uu, rws_note_ss, rws_note_so, rws_note_oo, sLightShown_v l i s h, sl28At_v l s h, bnd_some, geti_note_ss, geti_note_so, geti_note_oo, geti_i]
  by_cases c : lightShown l i s = 1
  · simp only [c, bne_self_eq_false, cnd_ff, if_true]
    unfold lightShown at c
    rcases entry_cases l s with ⟨h1, h2⟩ | ⟨j, x, h1, h2, h3, hR⟩
    · rw [h1] at c; simp at c
    rw [h3] at c
    have hj := (List.getElem?_eq_some_iff.1 h1).1
    have hL := isRecord_len hR
    obtain ⟨m, rfl, hm⟩ := lightOf_lt (e := x) (i := i) (by simp only at c; rw [c]; omega)
    rw [(hL x (mem_at h1)).1] at hm
    rw [h2]
    refine (iter_down (fun k => (l, (m : Int), s, (k : Int))) (fun k => if k ≤ j then some (W (s - secAt l (back l (m : Int) k))) else none) j (by omega) rfl ?_ ?_).trans (by simp)
    · intro rec
      have hz : l[0]? = some l[0] := List.getElem?_eq_getElem (by omega)
      simp [back, secAt, getZ0 hz, hz]
    · intro rec k hk hr
      have hk1 : W (((k + 1 : Nat) : Int) - 1) = (k : Int) := by rw [W_id (by omega) (by omega)]; omega
      have hz : l[k]? = some l[k] := List.getElem?_eq_getElem (by omega)
      have hz1 : l[k + 1]? = some l[k + 1] := List.getElem?_eq_getElem (by omega)
      have hmk : m < l[k].lights.length := by rw [(hL _ (mem_at hz)).1]; exact hm
      have hv : l[k].lights[m]? = some l[k].lights[m] := List.getElem?_eq_getElem hmk
      simp only [hk1, getZ_at hz, getZ_at hz1, getZ_at hv, show ((k + 1 : Nat) : Int) > 0 by omega, decide_true, cnd_tt, hr, back, hz, lightOf_at hv, if_pos (show k + 1 ≤ j by omega), if_pos (show k ≤ j by omega)]
      by_cases c2 : l[k].lights[m] = 1
      · simp [c2]
      · have c3 : (l[k].lights[m] == 1) = false := by simp [c2]
        simp only [c3, cnd_ff, if_neg c2]
        simp [secAt, hz1]
  · have : (lightShown l i s != 1) = true := by simp [c]
    simp [this, c]
def goO (a : Path) : List (Path × Int) → Int → Int
  | [], o => o
  | x :: r, o => goO a r (if o = 0 ∧ x.2 ≠ 0 ∧ conflict a x.1 = true then x.1.id else o)
def zeroRep : Report := ⟨0, 0, 0, 0, 0⟩
def report (t : Town) (p s : Int) : Report × Bool :=
  if isTown t = false ∨ findPath t.paths p < 0 ∨ t.now < s then (zeroRep, false) else
  match entry t.record s with
  | none => (zeroRep, false)
  | some e => (⟨p, s, lightOf e (findPath t.paths p), greenSince t.record (findPath t.paths p) s, goO (pathAt t.paths p) (t.paths.zip e.lights) 0⟩, true)
theorem town_len {t : Town} (h : isTown t = true) {e : Note} (he : e ∈ t.record) : e.lights.length = t.paths.length ∧ ∀ v ∈ e.lights, 0 ≤ v := by
  simp only [isTown, Bool.and_eq_true, decide_eq_true_eq] at h
  obtain ⟨⟨⟨⟨⟨⟨⟨⟨⟨⟨h1, h2⟩, h3⟩, h4⟩, h5⟩, h6⟩, h7⟩, h8⟩, h9⟩, h10⟩, h11⟩ := h
  have := isRecord_len h5 e he
  exact ⟨this.1.trans h8, this.2.2.2⟩
theorem sReportOf_v (t : Town) (p s : Int) (h : SmTown t) : S_sReportOf t p s = some (report t p s) := by
  obtain ⟨h0, h1, h2, h3, h4⟩ := h
  have hp := h0
  unfold Sm at hp
  unfold S_sReportOf S_sl38Index report
  simp only [rC_v, rT_ss, rT_so, rT_oo, rT_uu, rws_path, rws_i, rws_want, rws_lamp, rws_note_ss, rws_note_so, rws_note_oo, eta_Control, eta_Town, sFindPath_v _ _ h0, sIsTown_v t ⟨h0, h1, h2, h3, h4⟩, sShownAt_v _ _ h4, sGreenSince_v _ _ _ h4, bnd_some, len_i, geti_i, geti_path]
  cases hT : isTown t with
  | false => rfl
  | true =>
  by_cases hf : findPath t.paths p < 0
  · simp [hf]; rfl
  by_cases hn : t.now < s
  · simp [hf, hn]; rfl
  simp only [hf, hn, decide_false, cnd_ff, Bool.not_true, gt_iff_lt, false_or, Bool.true_eq_false, if_false, shownAt]
  rcases entry_cases t.record s with ⟨c1, c2⟩ | ⟨j, x, c1, c2, c3, _⟩
  · simp only [c1]; rfl
  simp only [c3, Bool.not_true, cnd_ff]
  obtain ⟨k, y, k1, k2, k3⟩ := findPath_lt hf
  obtain ⟨q1, q2⟩ := town_len hT (mem_at c1)
  have hkl := (List.getElem?_eq_some_iff.1 k1).1
  have hv : x.lights[k]? = some x.lights[k] := List.getElem?_eq_getElem (by omega)
  have hpa : pathAt t.paths p = y := by unfold pathAt; rw [k2, Int.toNat_natCast, k1]; rfl
  rw [k2, getZ_at hv, lightOf_at hv, hpa]
  have hz : (t.paths.zip x.lights).length = t.paths.length := by rw [List.length_zip]; omega
  refine (iter_list0 (t.paths.zip x.lights) (by omega) (fun n o => (((k : Int), x.lights, (n : Int)), t, zeroRep, (⟨p, s, x.lights[k], greenSince t.record (k : Int) s, o⟩ : Report))) 0 (fun r _ o => some ((⟨p, s, x.lights[k], greenSince t.record (k : Int) s, goO y r o⟩ : Report), true)) ?_ ?_ ?_).trans rfl
  · rfl
  · intro rec o
    simp [goO, hz, q1]
  · intro rec n z o hz1 hn1 hr
    simp only [Int.natCast_succ] at hr
    obtain ⟨z1, z2⟩ := zip_at hz1
    have hn2 : n < x.lights.length := by omega
    simp [hn2, getZ_at z1, getZ_at z2, getZ_at k1, sConflict_v, W_n1 (show n ≤ 9223372036854775806 by omega), goO]
    by_cases o0 : o = 0
    · subst o0
      by_cases l0 : z.2 = 0
      · simp [l0, hr]
      · have : (z.2 != 0) = true := by simp [l0]
        simp [this, l0]
        cases conflict y z.1 <;> simp [hr]
    · have : (o == 0) = false := by simp [o0]
      simp [this, o0, hr]
def walk (l : List Path) (x : Int) : Bool := !decide (findPath l x < 0) && (pathAt l x).kind == 2
def leastGreen (l : List Path) (ids : List Int) : Int := if ids.all (fun x => !walk l x) = true then 5 else 7
theorem sLeastGreen_v (l : List Path) (ids : List Int) (h : Sm l) (hi : Sm ids) : S_sLeastGreen l ids = some (leastGreen l ids) := by
  unfold Sm at hi
  unfold S_sLeastGreen leastGreen
  simp only [rC_v, rT_ss, rT_so, rT_oo, rT_uu, rws_path, rws_i, len_i]
  refine (all_loop ids (fun x => !walk l x) (by omega) (fun k => (l, ids, (k : Int))) (some 5) (some 7) rfl ?_ ?_).trans (by split <;> rfl)
  · intro rec; simp
  · intro rec k x hx hk
    simp [hk, getZ_at hx, W_n1 (show k ≤ 9223372036854775806 by omega), sFindPath_v l _ h, walk]
    by_cases c : findPath l x < 0
    · have : ¬ (0 ≤ findPath l x) := by omega
      simp [c, this, cnd_if]
    · have : 0 ≤ findPath l x := by omega
      simp [c, this, cnd_if, getZ_find c]
def SmS (st : List (List Int)) : Prop := Sm st ∧ ∀ y ∈ st, Sm y
def cov (st : List (List Int)) (id : Int) : Bool := st.any fun s => has s id
def covers (l : List Path) (st : List (List Int)) : Bool := arePaths l && (st.all (together l) && l.all fun p => cov st p.id)
theorem sCovers_v (l : List Path) (st : List (List Int)) (h : Sm l) (hs : SmS st) : S_sCovers l st = some (covers l st) := by
  obtain ⟨h1, h2⟩ := hs
  unfold Sm at h1
  have hl := h
  unfold Sm at hl
  unfold S_sCovers covers
  simp only [rC_v, rT_ss, rT_so, rT_oo, rT_uu, rws_path, rws_il_ss, len_il, len_path]
  refine (all_loop st (together l) (by omega) (fun k => (l, st, (k : Int))) (if (l.all fun p => cov st p.id) = true then some (arePaths l) else some false) (some false) rfl ?_ ?_).trans (by cases st.all (together l) <;> cases (l.all fun p => cov st p.id) <;> cases arePaths l <;> rfl)
  · intro rec
    simp
    refine (all_loop l (fun p => cov st p.id) (by omega) (fun k => (l, st, (k : Int))) (some (arePaths l)) (some false) rfl ?_ ?_).trans (by simp)
    · intro rec; simp [sArePaths_v l h]
    · intro rec k x hx hk
      simp [hk]
      refine (iter_list0 st (by omega) (fun j (b : Bool) => (l, st, (k : Int), b, (j : Int))) false (fun s _ b => if (b || cov s x.id) = true then rec (l, st, (k : Int) + 1) else some false) rfl ?_ ?_).trans (by simp)
      · intro rec2 b
        cases b <;> simp [cov, W_n1 (show k ≤ 9223372036854775806 by omega)]
      · intro rec2 j y b hy hj hr
        simp only [Int.natCast_succ] at hr
        cases b with
        | true =>
          simp [hj, W_n1 (show j ≤ 9223372036854775806 by omega), hr]
        | false =>
          simp [hj, getZ_at hy, getZ_at hx, W_n1 (show j ≤ 9223372036854775806 by omega), sl6Has_v y _ (h2 y (List.mem_of_getElem? hy)), hr, cov]
  · intro rec k x hx hk
    simp [hk, getZ_at hx, W_n1 (show k ≤ 9223372036854775806 by omega), sIsTogether_v l x h (h2 x (List.mem_of_getElem? hx))]
    cases together l x <;> simp
def SmL (p : List Part) : Prop := Sm p ∧ ∀ y ∈ p, SmPart y
def partOk (l : List Path) (x : Part) : Bool := !x.stage.isEmpty && (together l x.stage && inR x.green (leastGreen l x.stage) 60)
def stages (p : List Part) : List (List Int) := p.map (·.stage)
def isPlan (l : List Path) (p : List Part) : Bool := inR p.length 1 6 && (p.all (partOk l) && covers l (stages p))
theorem stages_sm {p : List Part} (h : SmL p) : SmS (stages p) := by
  refine ⟨by have := h.1; unfold Sm stages at *; simpa using this, fun y hy => ?_⟩
  obtain ⟨x, hx, rfl⟩ := List.mem_map.1 hy
  exact h.2 x hx
theorem appe_il (l : List (List Int)) (a : List Int) : l.map (rOne (rX .shr 1 iR)).enc ++ [[.slc .shr 1 (a.map iR.enc)]] = (l ++ [a]).map (rOne (rX .shr 1 iR)).enc := (List.map_append (f := (rOne (rX .shr 1 iR)).enc) (l₁ := l) (l₂ := [a])).symm
theorem sl8Stages_v (p : List Part) (h : SmL p) : S_sl8Stages p = some (stages p) := by
  have h1 := h.1
  unfold Sm at h1
  unfold S_sl8Stages stages
  simp only [rws_part_ss, len_part]
  refine mapG_loop p (·.stage) (by omega) (fun k acc => (p, acc, (k : Int))) some rfl ?_ ?_
  · intro rec acc ha
    simp
  · intro rec k x acc hx hk ha
    simp [appe_il, hk, getZ_at hx, W_n1 (show k ≤ 9223372036854775806 by omega), ha, show (k + 1) * 24 ≤ 140737488355328 by omega, show k ≤ 1152921504606846975 by omega]
theorem len_e0 (x : List Int) : ((x.length : Int) == 0) = x.isEmpty := by
  cases x with
  | nil => rfl
  | cons a x => simp; omega
theorem sIsPlan_v (l : List Path) (p : List Part) (h : Sm l) (hp : SmL p) : S_sIsPlan l p = some (isPlan l p) := by
  have h1 := hp.1
  unfold Sm at h1
  unfold S_sIsPlan isPlan
  simp only [rC_v, rT_ss, rT_so, rT_oo, rT_uu, rws_path, rws_part_ss, len_part, sl1In_v, bnd_some, inR]
  cases (decide (1 ≤ (p.length : Int)) && decide ((p.length : Int) ≤ 6)) with
  | false => simp
  | true =>
  simp only [Bool.not_true, cnd_ff]
  refine (all_loop p (partOk l) (by omega) (fun k => (l, p, (k : Int))) (some (covers l (stages p))) (some false) rfl ?_ ?_).trans (by cases p.all (partOk l) <;> rfl)
  · intro rec
    simp [sl8Stages_v p hp, sCovers_v l _ h (stages_sm hp)]
  · intro rec k x hx hk
    have hx' : Sm x.stage := hp.2 x (List.mem_of_getElem? hx)
    simp [hk, getZ_at hx, W_n1 (show k ≤ 9223372036854775806 by omega), sIsTogether_v l _ h hx', sLeastGreen_v l _ h hx', len_e0, sl1In_v]
    unfold partOk inR
    cases x.stage.isEmpty <;> cases together l x.stage <;> cases decide (leastGreen l x.stage ≤ x.green) <;> cases decide (x.green ≤ 60) <;> simp
theorem leastGreen_r (l : List Path) (ids : List Int) : 5 ≤ leastGreen l ids ∧ leastGreen l ids ≤ 7 := by
  unfold leastGreen; split <;> omega
theorem isPlan_spec {l : List Path} {p : List Part} (h : isPlan l p = true) : 1 ≤ p.length ∧ p.length ≤ 6 ∧ (∀ x ∈ p, 5 ≤ x.green ∧ x.green ≤ 60) ∧ arePaths l = true := by
  unfold isPlan covers at h
  simp only [Bool.and_eq_true, List.all_eq_true] at h
  obtain ⟨h1, h2, h3, _⟩ := h
  unfold inR at h1
  simp at h1
  refine ⟨by omega, by omega, fun x hx => ?_, h3⟩
  have := h2 x hx
  unfold partOk inR at this
  simp at this
  have := leastGreen_r l x.stage
  omega
theorem sl14Copy_v (x : Control) (h : SmControl x) : S_sl14Copy x = some x := by
  obtain ⟨h1, h2⟩ := h
  unfold Sm at h1 h2
  unfold S_sl14Copy
  simp only [rC_v, rT_ss, rT_so, rT_oo, rT_uu, len_i, List.length_nil, clrs_i, rws_i]
  rw [ifA_pos (by omega), ifA_pos (by omega)]
theorem appe_note {o p q : Own} (h0 : okO o p = true) (h1 : okO o q = true) (l : List Note) (a : Int) (b : List Int) (c : Int) {β : Type} (K : List Note → Option β) :
    rws (noteR o) (l.map (noteR p).enc ++ [[I a, .slc q 1 (b.map iR.enc), I c]]) K = K (l ++ [(⟨a, b, c⟩ : Note)]) :=
  (rws_app _ _ _ K).trans ((rws_note h0 l _).trans (row_note h1 a b c fun l' => K (l ++ l')))
@[simp] theorem appe_note_ss (l : List Note) (a : Int) (b : List Int) (c : Int) {β : Type} (K : List Note → Option β) : rws (noteR Own.shr) (l.map (noteR Own.shr).enc ++ [[I a, .slc Own.shr 1 (b.map iR.enc), I c]]) K = K (l ++ [(⟨a, b, c⟩ : Note)]) := appe_note (o := .shr) (p := .shr) (q := .shr) rfl rfl l a b c K
@[simp] theorem appe_note_so (l : List Note) (a : Int) (b : List Int) (c : Int) {β : Type} (K : List Note → Option β) : rws (noteR Own.shr) (l.map (noteR Own.shr).enc ++ [[I a, .slc Own.own 1 (b.map iR.enc), I c]]) K = K (l ++ [(⟨a, b, c⟩ : Note)]) := appe_note (o := .shr) (p := .shr) (q := .own) rfl rfl l a b c K
@[simp] theorem appe_note_oo (l : List Note) (a : Int) (b : List Int) (c : Int) {β : Type} (K : List Note → Option β) : rws (noteR Own.own) (l.map (noteR Own.own).enc ++ [[I a, .slc Own.own 1 (b.map iR.enc), I c]]) K = K (l ++ [(⟨a, b, c⟩ : Note)]) := appe_note (o := .own) (p := .own) (q := .own) rfl rfl l a b c K
@[simp] theorem appe_note_soo (l : List Note) (a : Int) (b : List Int) (c : Int) {β : Type} (K : List Note → Option β) : rws (noteR Own.shr) (l.map (noteR Own.own).enc ++ [[I a, .slc Own.own 1 (b.map iR.enc), I c]]) K = K (l ++ [(⟨a, b, c⟩ : Note)]) := appe_note (o := .shr) (p := .own) (q := .own) rfl rfl l a b c K
abbrev SmR (l : List Note) : Prop := Sm l ∧ ∀ y ∈ l, SmNote y
theorem sl27Copy_v (l : List Note) (h : SmR l) : S_sl27Copy l = some l := by
  obtain ⟨h1, h2⟩ := h
  unfold Sm at h1
  unfold S_sl27Copy
  simp only [rC_v, rT_ss, rT_so, rT_oo, rT_uu, rws_note_ss, rws_note_so, rws_note_oo, len_note]
  refine (mapG_loop l id (by omega) (fun k acc => (l, (acc, (k : Int)))) some rfl ?_ ?_).trans (by simp)
  · intro rec acc ha; simp
  · intro rec k x acc hx hk ha
    have hs := h2 x (mem_at hx)
    unfold SmNote Sm at hs
    simp [hk, getZ_at hx, W_n1 (show k ≤ 9223372036854775806 by omega), ha, show (k + 1) * 40 ≤ 140737488355328 by omega, show k ≤ 1152921504606846975 by omega, show x.lights.length * 8 ≤ 140737488355328 by omega, show x.lights.length ≤ 1152921504606846976 by omega]
theorem sl33Copy_v (t : Town) (h : SmTown t) : S_sl33Copy t = some t := by
  obtain ⟨h0, h1, h2, h3, h4⟩ := h
  unfold S_sl33Copy
  simp only [rC_v, rT_ss, rT_so, rT_oo, rT_uu, rws_i, eta_Control, sl14Copy_v _ h1, sl27Copy_v _ h4, bnd_some, rws_note_ss, rws_note_so, rws_note_oo, len_path, len_want, len_lamp, List.length_nil, clrs_path, clrs_want, clrs_lamp, rws_path, rws_want, rws_lamp, eta_Town]
  unfold Sm at h0 h2 h3
  rw [ifA_pos (by omega), ifA_pos (by omega), ifA_pos (by omega)]
def lastSig (l : List Note) : Int := match l.getLast? with | some e => e.sig | none => 0
theorem last_get {l : List Note} {e : Note} (h : l.getLast? = some e) : l[l.length - 1]? = some e ∧ 0 < l.length := by
  cases l with
  | nil => cases h
  | cons a l => rw [List.getLast?_eq_getElem?] at h; exact ⟨h, by simp⟩
theorem sLastSeal_v (l : List Note) (h : SmR l) : S_sLastSeal l = some (lastSig l) := by
  have h1 := h.1
  unfold Sm at h1
  unfold S_sLastSeal lastSig
  simp only [len_note, geti_note_ss, geti_note_so, geti_note_oo]
  cases hl : l.getLast? with
  | none => have : l = [] := by simpa using hl
            subst this; rfl
  | some e =>
    obtain ⟨e1, e2⟩ := last_get hl
    have hk1 : W ((l.length : Int) - 1) = ((l.length - 1 : Nat) : Int) := by rw [W_id (by omega) (by omega)]; omega
    rw [hk1, getZ_at e1, show (((l.length : Nat) : Int) == 0) = false from beq_eq_false_iff_ne.2 (by omega), cnd_ff]
def entryOf (l : List Note) (s : Int) (v : List Int) : Note := ⟨s, v, sealOf (lastSig l) s v⟩
def addEntry (l : List Note) (s : Int) (v : List Int) : List Note × Bool := if isRecord (l ++ [entryOf l s v]) = true then (l ++ [entryOf l s v], true) else (l, false)
theorem smR_app {l : List Note} {e : Note} (h : SmR l) (hl : l.length ≤ 1000) (he : Sm e.lights) : SmR (l ++ [e]) := by
  refine ⟨by unfold Sm; simp; omega, fun y hy => ?_⟩
  rcases List.mem_append.1 hy with hy | hy
  · exact h.2 y hy
  · rw [List.mem_singleton] at hy
    subst hy
    exact he
theorem sAddEntry_v (l : List Note) (s : Int) (v : List Int) (h : SmR l) (hl : l.length ≤ 1000) (hv : Sm v) : S_sAddEntry l s v = some (addEntry l s v) := by
  have hv' := hv
  unfold Sm at hv'
  have ho : SmR (l ++ [(⟨s, v, sealOf (lastSig l) s v⟩ : Note)]) := smR_app h hl hv
  unfold S_sAddEntry addEntry entryOf
  simp [sl27Copy_v l h, sLastSeal_v l h, sSealOf_v _ s v hv, sIsRecord_v _ ho, show v.length * 8 ≤ 140737488355328 by omega, show v.length ≤ 1152921504606846976 by omega, show (l.length + 1) * 40 ≤ 140737488355328 by omega, show l.length ≤ 1152921504606846975 by omega]
  cases isRecord (l ++ [(⟨s, v, sealOf (lastSig l) s v⟩ : Note)]) <;> simp
def noteLights (l : List Note) (s : Int) (v : List Int) : List Note × Bool := match l.getLast? with
  | some e => if e.lights = v then (l, isRecord l && (decide (e.second < s) && inR s 0 1000000)) else addEntry l s v
  | none => addEntry l s v
theorem sNoteLights_v (l : List Note) (s : Int) (v : List Int) (h : SmR l) (hl : l.length ≤ 1000) (hv : Sm v) : S_sNoteLights l s v = some (noteLights l s v) := by
  unfold S_sNoteLights noteLights
  simp only [rC_v, rT_ss, rT_so, rT_oo, rT_uu, rws_note_ss, rws_note_so, rws_note_oo, rws_i, len_note, geti_note_ss, geti_note_so, geti_note_oo, sAddEntry_v l s v h hl hv, sl27Copy_v l h, sIsRecord_v l h, bnd_some]
  cases hg : l.getLast? with
  | none => have : l = [] := by simpa using hg
            subst this; rfl
  | some e =>
    obtain ⟨e1, e2⟩ := last_get hg
    have hk1 : W ((l.length : Int) - 1) = ((l.length - 1 : Nat) : Int) := by rw [W_id (by omega) (by omega)]; omega
    have he : Sm e.lights := h.2 e (mem_at e1)
    rw [hk1, getZ_at e1, show (((l.length : Nat) : Int) == 0) = false from beq_eq_false_iff_ne.2 (by omega), cnd_ff, getZ_at e1]
    simp only [sEqualInts_v _ v he, bnd_some, sl1In_v]
    by_cases c : e.lights = v
    · simp only [c, decide_true, Bool.not_true, cnd_ff]
      cases isRecord l <;> by_cases c2 : e.second < s <;> simp [c2, inR]
    · simp [c]
theorem addEntry_sm {l : List Note} {s : Int} {v : List Int} (h : SmR l) (hl : l.length ≤ 1000) (hv : Sm v) : SmR (addEntry l s v).1 := by
  unfold addEntry
  split
  · exact smR_app h hl hv
  · exact h
theorem noteLights_sm {l : List Note} {s : Int} {v : List Int} (h : SmR l) (hl : l.length ≤ 1000) (hv : Sm v) : SmR (noteLights l s v).1 := by
  unfold noteLights
  split
  · split
    · exact h
    · exact addEntry_sm h hl hv
  · exact addEntry_sm h hl hv
def cutLast (t : Town) : List Note := match t.record.getLast? with
  | some e => if e.second = t.now then t.record.dropLast else t.record
  | none => t.record
def note (t : Town) : Town :=
  if (noteLights (cutLast t) t.now (lightsNow t)).2 = false ∧ (cutLast t).length = 60 then { t with record := (noteLights [] t.now (lightsNow t)).1, books := t.books + 1 }
  else { t with record := (noteLights (cutLast t) t.now (lightsNow t)).1 }
theorem smR_nil : SmR [] := ⟨by unfold Sm; simp, fun y hy => by cases hy⟩
theorem smR_cut {t : Town} (h : SmR t.record) : SmR (cutLast t) := by
  have h1 := h.1
  unfold Sm at h1
  unfold cutLast
  split
  · split
    · refine ⟨by unfold Sm; simp; omega, fun y hy => h.2 y ((List.dropLast_sublist _).subset hy)⟩
    · exact h
  · exact h
theorem cut_len (t : Town) : (cutLast t).length ≤ t.record.length := by
  unfold cutLast
  split
  · split
    · simp
    · exact Nat.le_refl _
  · exact Nat.le_refl _
theorem lightsNow_sm (x : Town) (h : SmTown x) : Sm (lightsNow x) := by
  have h0 := h.1
  unfold Sm lightsNow lightsOf at *
  split
  · split
    · simpa using h0
    · simp
  · simpa using h0
theorem note_sm {t : Town} (h : SmTown t) (hl : t.record.length ≤ 1000) : SmTown (note t) := by
  have hv := lightsNow_sm t h
  have hc := cut_len t
  obtain ⟨h0, h1, h2, h3, h4⟩ := h
  unfold note
  split
  · exact ⟨h0, h1, h2, h3, noteLights_sm smR_nil (by simp) hv⟩
  · exact ⟨h0, h1, h2, h3, noteLights_sm (smR_cut h4) (by omega) hv⟩
theorem take_dropLast {α : Type} (l : List α) : l.take (l.length - 1) = l.dropLast := List.dropLast_eq_take.symm
theorem cut_some {t : Town} {e : Note} (hg : t.record.getLast? = some e) : cutLast t = if e.second = t.now then t.record.take (t.record.length - 1) else t.record := by
  unfold cutLast
  rw [hg, take_dropLast]
theorem noteLights_nil (s : Int) (v : List Int) : noteLights [] s v = addEntry [] s v := rfl
theorem sl34Note_v (t : Town) (h : SmTown t) (hl : t.record.length ≤ 1000) (hb : 0 ≤ t.books ∧ t.books ≤ 1000) : S_sl34Note t = some (note t) := by
  have hv := lightsNow_sm t h
  have h4 := h.2.2.2.2
  have hc := cut_len t
  have hcs := smR_cut h4
  unfold S_sl34Note note
  simp only [rC_v, rT_ss, rT_so, rT_oo, rT_uu, rws_path, rws_i, rws_want, rws_lamp, rws_note_ss, rws_note_so, rws_note_oo, eta_Control, eta_Town, sLightsNow_v t h, bnd_some, len_note, geti_note_ss, geti_note_so, geti_note_oo]
  have last : ∀ l : List Note, l.length ≤ 1000 → SmR l → (bnd (S_sNoteLights l t.now (lightsNow t)) fun r => cnd (!r.2) (cnd ((l.length : Int) == 60) (bnd (S_sAddEntry [] t.now (lightsNow t)) fun r5 => bnd (S_sMin 1000 t.books) fun r6 => some ({ t with record := r5.1, books := W (r6 + 1) } : Town)) (some { t with record := r.1 })) (some { t with record := r.1 })) =
      some (if (noteLights l t.now (lightsNow t)).2 = false ∧ l.length = 60 then { t with record := (noteLights [] t.now (lightsNow t)).1, books := t.books + 1 } else { t with record := (noteLights l t.now (lightsNow t)).1 }) := by
    intro l h1 h2
    simp only [sNoteLights_v l t.now _ h2 h1 hv, sAddEntry_v [] t.now _ smR_nil (by simp) hv, sMin_v, bnd_some, noteLights_nil, show (if t.books < 1000 then t.books else 1000) = t.books by split <;> omega]
    rw [W_id (by omega) (by omega)]
    cases (noteLights l t.now (lightsNow t)).2 <;> by_cases c : l.length = 60 <;> simp [c, cnd_if] <;> omega
  cases hg : t.record.getLast? with
  | none =>
    have hn : t.record = [] := by simpa using hg
    have hcut : cutLast t = t.record := by unfold cutLast; rw [hg]
    rw [hcut]
    rw [← last t.record hl h4]
    simp [hn]
  | some e =>
    obtain ⟨e1, e2⟩ := last_get hg
    have hk1 : W ((t.record.length : Int) - 1) = ((t.record.length - 1 : Nat) : Int) := by rw [W_id (by omega) (by omega)]; omega
    rw [hk1, show decide (((t.record.length : Nat) : Int) > 0) = true from decide_eq_true (by omega), cnd_tt, getZ_at e1]
    rw [cut_some hg] at hcs ⊢
    by_cases c : e.second = t.now
    · rw [if_pos c] at hcs ⊢
      simp only [c, beq_self_eq_true, cnd_tt]
      rw [ifA_pos (by omega), Int.toNat_natCast, show Int.toNat 0 = 0 from rfl, List.drop_zero]
      simp only [rC_v, rT_ss, rT_so, rT_oo, rT_uu, take_note, rws_note_ss, rws_note_so, rws_note_oo, sl27Copy_v _ hcs, bnd_some, len_note]
      exact last _ (by simp; omega) hcs
    · rw [if_neg c]
      simp only [show (e.second == t.now) = false from beq_eq_false_iff_ne.2 c, cnd_ff]
      exact last _ hl h4
def stepped (t o : Town) (ok : Bool) : Town × Bool := if ok && (isTown t && isTown o) then (o, true) else (t, false)
theorem sl34Done_v (t o : Town) (ok : Bool) (h : SmTown t) (h' : SmTown o) : S_sl34Done t o ok = some (stepped t o ok) := by
  unfold S_sl34Done stepped
  simp only [rC_v, rT_ss, rT_so, rT_oo, rT_uu, rws_path, rws_i, rws_want, rws_lamp, rws_note_ss, rws_note_so, rws_note_oo, eta_Control, eta_Town, sl33Copy_v t h, sIsTown_v t h, sIsTown_v o h', bnd_some]
  cases ok <;> cases isTown t <;> cases isTown o <;> simp [eta_Control, eta_Town]
theorem stepped_sm {t o : Town} {ok : Bool} (h : SmTown t) (h' : SmTown o) : SmTown (stepped t o ok).1 := by
  unfold stepped
  split
  · exact h'
  · exact h
def askPrio (l : List Path) (x : Prio) (p : Int) : Prio × Bool := if isPrio l x && (x.path == 0 && isBus l p) then (⟨p, 20⟩, true) else (x, false)
theorem isPrio_new {l : List Path} {x : Prio} (h : isPrio l x = true) (p : Int) : isPrio l ⟨p, 20⟩ = isBus l p := by
  unfold isPrio at *
  rw [Bool.and_eq_true] at h
  have : ((⟨p, 20⟩ : Prio) = ⟨0, 0⟩) = False := by simp
  simp [h.1, this, inR]
theorem sAskPrio_v (l : List Path) (x : Prio) (p : Int) (hl : Sm l) : S_sAskPrio l x p = some (askPrio l x p) := by
  unfold S_sAskPrio askPrio
  simp only [rC_v, rT_ss, rT_so, rT_oo, rT_uu, rws_path, sIsPrio_v _ _ hl, bnd_some]
  cases h : isPrio l x with
  | false => simp
  | true =>
    rw [isPrio_new h]
    by_cases c : x.path = 0
    · cases isBus l p <;> simp [c]
    · simp [show (x.path != 0) = true by simpa using c, show (x.path == 0) = false by simpa using c]
def stepBus (t : Town) (p : Int) : Town × Bool := stepped t { t with prio := (askPrio t.paths t.prio p).1 } (askPrio t.paths t.prio p).2
theorem sStepBus_v (t : Town) (p : Int) (h : SmTown t) : S_sStepBus t p = some (stepBus t p) := by
  have h' : SmTown { t with prio := (askPrio t.paths t.prio p).1 } := h
  unfold S_sStepBus stepBus
  simp only [rC_v, rT_ss, rT_so, rT_oo, rT_uu, rws_path, rws_i, rws_want, rws_lamp, rws_note_ss, rws_note_so, rws_note_oo, eta_Control, eta_Town, sl33Copy_v t h, sAskPrio_v _ _ _ h.1, bnd_some, sl34Done_v t _ _ h h']
theorem stepBus_sm {t : Town} (h : SmTown t) (p : Int) : SmTown (stepBus t p).1 := stepped_sm h h
def isRoad (l : List Path) (id : Int) : Bool := !decide (findPath l id < 0) && (pathAt l id).kind != 2
def canCut (l : List Path) (x : Control) : Bool := isControl l x && (x.next.isEmpty && decide (x.since ≥ if leastGreen l x.stage = 7 then 7 else 4))
theorem sCanCut_v (l : List Path) (x : Control) (h : Sm l) (hx : SmControl x) : S_sCanCut l x = some (canCut l x) := by
  unfold S_sCanCut canCut
  simp only [rC_v, rT_ss, rT_so, rT_oo, rT_uu, rws_path, rws_i, eta_Control, sLeastGreen_v l _ h hx.1, sIsControl_v l x h hx, bnd_some, len_i, len0]
  by_cases c : leastGreen l x.stage = 7
  · simp only [c, beq_self_eq_true, cnd_tt, if_true]
    cases isControl l x <;> cases x.next.isEmpty <;> simp
  · simp only [show (leastGreen l x.stage == 7) = false from beq_eq_false_iff_ne.2 c, cnd_ff, if_neg c]
    cases isControl l x <;> cases x.next.isEmpty <;> simp
theorem clearOf_pos (p : Path) : 0 ≤ clearOf p ∧ clearOf p ≤ 5 := by
  unfold clearOf
  split
  · split
    · omega
    · split <;> omega
  · omega
theorem most_le {n c : Int} (h : 0 ≤ n ∧ n ≤ 5) (h' : 0 ≤ c ∧ c ≤ 5) : 0 ≤ most n c ∧ most n c ≤ 5 := by unfold most; split <;> omega
theorem stepC_le (l : List Path) (x : Int) : ∀ (s : List Int) (n : Int), 0 ≤ n ∧ n ≤ 5 → 0 ≤ s.foldl (stepC l x) n ∧ s.foldl (stepC l x) n ≤ 5
  | [], n, h => h
  | y :: s, n, h => by
    rw [List.foldl_cons]
    refine stepC_le l x s _ ?_
    unfold stepC
    split
    · exact most_le h (clearOf_pos _)
    · exact h
theorem clear_fold (l : List Path) (b : List Int) : ∀ (s : List Int) (n : Int), 0 ≤ n ∧ n ≤ 5 → 0 ≤ s.foldl (fun n x => b.foldl (stepC l x) n) n ∧ s.foldl (fun n x => b.foldl (stepC l x) n) n ≤ 5
  | [], n, h => h
  | y :: s, n, h => by
    rw [List.foldl_cons]
    exact clear_fold l b s _ (stepC_le l y b n h)
theorem clear_le (l : List Path) (a b : List Int) : 0 ≤ clearBetween l a b ∧ clearBetween l a b ≤ 5 := by
  unfold clearBetween
  split
  · exact clear_fold l _ _ 0 (by omega)
  · omega
def cutFor (l : List Path) (x : Control) (p : Int) : Control × Bool :=
  if canCut l x && (isRoad l p && !has x.stage p) then
    (if clearBetween l x.stage [p] = 0 then (⟨[p], 0, [], 0⟩, true) else (⟨x.stage, x.since, [p], clearBetween l x.stage [p]⟩, true))
  else (x, false)
theorem sm_one (p : Int) : Sm [p] := by unfold Sm; simp
theorem sCutFor_v (l : List Path) (x : Control) (p : Int) (h : Sm l) (hx : SmControl x) : S_sCutFor l x p = some (cutFor l x p) := by
  unfold S_sCutFor cutFor isRoad
  simp only [rC_v, rT_ss, rT_so, rT_oo, rT_uu, rws_path, rws_i, eta_Control, sl14Copy_v x hx, sFindPath_v _ _ h, sCanCut_v l x h hx, bnd_some, sl6Has_v _ _ hx.1, geti_path, row_i, sClearBetween_v l _ _ h hx.1 (sm_one p)]
  cases canCut l x with
  | false => simp
  | true =>
    by_cases hf : findPath l p < 0
    · simp [hf]
    · simp only [hf, decide_false, cnd_ff, getZ_find hf, Bool.not_true, Bool.not_false, Bool.true_and]
      by_cases hk : (pathAt l p).kind = 2
      · simp [hk]
      · simp only [show ((pathAt l p).kind == 2) = false from beq_eq_false_iff_ne.2 hk, show ((pathAt l p).kind != 2) = true from bne_iff_ne.2 hk, cnd_ff, Bool.true_and]
        cases has x.stage p with
        | true => simp
        | false =>
          by_cases hc : clearBetween l x.stage [p] = 0
          · simp [hc]
          · simp [hc, show (clearBetween l x.stage [p] == 0) = false from beq_eq_false_iff_ne.2 hc]
def tick (l : List Path) (x : Control) : Control :=
  if isControl l x = true then
    (if x.next.isEmpty = true then { x with since := if x.since < 1000000 then x.since + 1 else 1000000 } else if x.left > 1 then { x with left := x.left - 1 } else ⟨x.next, 0, [], 0⟩)
  else x
theorem control_left {l : List Path} {x : Control} (h : isControl l x = true) : (0 ≤ x.since ∧ x.since ≤ 1000000) ∧ (x.next.isEmpty = false → 1 ≤ x.left ∧ x.left ≤ 5) := by
  unfold isControl inR at h
  simp only [Bool.and_eq_true, decide_eq_true_eq] at h
  refine ⟨h.1.2, fun hn => ?_⟩
  have h2 := h.2
  rw [if_neg (by intro e; rw [e] at hn; cases hn)] at h2
  simp only [Bool.and_eq_true, decide_eq_true_eq] at h2
  have := (clear_le l x.stage x.next).2
  omega
theorem sTickControl_v (l : List Path) (x : Control) (h : Sm l) (hx : SmControl x) : S_sTickControl l x = some (tick l x) := by
  unfold S_sTickControl tick
  simp only [rC_v, rT_ss, rT_so, rT_oo, rT_uu, rws_path, rws_i, eta_Control, sl14Copy_v x hx, sIsControl_v l x h hx, bnd_some, len_i, len0, sMin_v]
  cases hc : isControl l x with
  | false => simp
  | true =>
    obtain ⟨h1, h2⟩ := control_left hc
    cases hn : x.next.isEmpty with
    | true =>
      rw [W_id (by omega) (by omega)]
      simp
      by_cases c : x.since < 1000000
      · rw [if_pos c]
        by_cases c2 : x.since + 1 < 1000000
        · rw [if_pos c2]
        · rw [if_neg c2]; omega
      · rw [if_neg c, if_neg (by omega)]
    | false =>
      obtain ⟨h3, h4⟩ := h2 hn
      rw [show W (x.left - 1) = x.left - 1 from W_id (by omega) (by omega)]
      by_cases c : x.left > 1
      · simp [c, show (x.left - 1 == 0) = false from beq_eq_false_iff_ne.2 (by omega)]
      · simp [c, show x.left = 1 by omega]
theorem cutFor_sm {l : List Path} {x : Control} {p : Int} (hx : SmControl x) : SmControl (cutFor l x p).1 := by
  unfold cutFor
  split
  · split
    · exact ⟨sm_one p, by unfold Sm; simp⟩
    · exact ⟨hx.1, sm_one p⟩
  · exact hx
theorem tick_sm {l : List Path} {x : Control} (hx : SmControl x) : SmControl (tick l x) := by
  unfold tick
  split
  · split
    · exact hx
    · split
      · exact hx
      · exact ⟨hx.2, by unfold Sm; simp⟩
  · exact hx
def siren (l : List Path) (x : Control) (p : Int) : Control := if (cutFor l x p).2 = true then (cutFor l x p).1 else tick l x
theorem sStepSiren_v (l : List Path) (x : Control) (p : Int) (h : Sm l) (hx : SmControl x) : S_sStepSiren l x p = some (siren l x p) := by
  unfold S_sStepSiren siren
  simp only [rC_v, rT_ss, rT_so, rT_oo, rT_uu, rws_path, rws_i, eta_Control, sCutFor_v l x p h hx, sTickControl_v l x h hx, bnd_some]
  cases (cutFor l x p).2 <;> simp [eta_Control]
theorem siren_sm {l : List Path} {x : Control} {p : Int} (hx : SmControl x) : SmControl (siren l x p) := by
  unfold siren
  split
  · exact cutFor_sm hx
  · exact tick_sm hx
theorem together_nil {l : List Path} : together l [] = arePaths l := by unfold together; rfl
theorem together_are {l : List Path} {a : List Int} (h : together l a = true) : arePaths l = true := by
  unfold together at h
  rw [Bool.and_eq_true] at h
  exact h.2
theorem together_one {l : List Path} {p : Int} (h : arePaths l = true) (hp : ¬ findPath l p < 0) : together l [p] = true := by
  unfold together
  simp [goT, hp, prevOk, h]
theorem control_parts {l : List Path} {x : Control} (h : isControl l x = true) : x.stage ≠ [] ∧ together l x.stage = true ∧ together l x.next = true := by
  unfold isControl at h
  simp only [Bool.and_eq_true] at h
  refine ⟨fun e => ?_, h.1.1.1.2, h.1.1.2⟩
  have := h.1.1.1.1
  rw [e] at this
  cases this
theorem tick_control {l : List Path} {x : Control} (h : isControl l x = true) : isControl l (tick l x) = true := by
  obtain ⟨a1, a2, a3⟩ := control_parts h
  obtain ⟨h1, h2⟩ := control_left h
  have ha := together_are a2
  unfold tick
  rw [if_pos h]
  unfold isControl inR at h ⊢
  simp only [Bool.and_eq_true, decide_eq_true_eq] at h
  cases hn : x.next with
  | nil =>
    rw [hn] at h
    simp at h
    simp [a1, a2, together_nil, ha, h]
    split <;> omega
  | cons b r =>
    rw [hn] at h a3
    have h3 := h2 (by rw [hn]; rfl)
    have h4 := h.2
    simp at h4
    by_cases c : x.left > 1
    · simp [c, a1, a2, a3, h1]
      omega
    · simp [c, a3, together_nil, ha]
theorem cutFor_control {l : List Path} {x : Control} {p : Int} (h : isControl l x = true) : isControl l (cutFor l x p).1 = true := by
  unfold cutFor
  split
  · rename_i hc
    simp only [Bool.and_eq_true, isRoad] at hc
    have hp : ¬ findPath l p < 0 := by simpa using hc.2.1.1
    obtain ⟨a1, a2, a3⟩ := control_parts h
    obtain ⟨h1, h2⟩ := control_left h
    have ha := together_are a2
    have h0 := clear_le l x.stage [p]
    split
    · simp [isControl, together_one ha hp, together_nil, ha, inR]
    · simp [isControl, together_one ha hp, a1, a2, inR, h1]
      omega
  · exact h
theorem siren_control {l : List Path} {x : Control} {p : Int} (h : isControl l x = true) : isControl l (siren l x p) = true := by
  unfold siren
  split
  · exact cutFor_control h
  · exact tick_control h
theorem goW_mem {l : List Path} : ∀ {w : List Want} {pv : Option Int}, goW l pv w = true → ∀ x ∈ w, wantOk l x = true
  | [], _, _, x, hx => by cases hx
  | y :: w, pv, h, x, hx => by
    simp only [goW, Bool.and_eq_true] at h
    rcases List.mem_cons.1 hx with rfl | hx
    · exact h.1.1
    · exact goW_mem h.2 x hx
theorem wants_mem {l : List Path} {w : List Want} (h : areWants l w = true) {x : Want} (hx : x ∈ w) : ¬ findPath l x.path < 0 ∧ 0 ≤ x.wait ∧ x.wait ≤ 100000 := by
  unfold areWants at h
  rw [Bool.and_eq_true] at h
  have := goW_mem h.2 x hx
  unfold wantOk inR at this
  simpa using this
theorem getZ_light {β : Type} {l : List Path} {y : Control} {id : Int} (hc : isControl l y = true) (h : ¬ findPath l id < 0) (K : Int → Option β) : getZ (lightsOf l y) (findPath l id) K = K (lightAt y id) := by
  obtain ⟨i, x, h1, h2, h3⟩ := findPath_lt h
  have : (lightsOf l y)[i]? = some (lightAt y x.id) := by
    unfold lightsOf
    rw [if_pos hc, List.getElem?_map, h1]
    rfl
  rw [h2, getZ_at this, h3]
def bump (n : Int) : Int := if n < 100000 then n + 1 else 100000
def waited (y : Control) (w : List Want) : List Want := w.filterMap fun x => if lightAt y x.path = 1 then none else some ⟨x.path, bump x.wait⟩
theorem appe_want (l : List Want) (a b : Int) {β : Type} (K : List Want → Option β) : rws wantR (l.map wantR.enc ++ [[I a, I b]]) K = K (l ++ [(⟨a, b⟩ : Want)]) :=
  (rws_app _ _ _ K).trans ((rws_want l _).trans (row_want _ _ fun l' => K (l ++ l')))
theorem sl16Wants_v (l : List Path) (y : Control) (w : List Want) (h : Sm l) (hy : SmControl y) (hw : Sm w) (hc : isControl l y = true) (ha : areWants l w = true) : S_sl16Wants l y w = some (waited y w) := by
  unfold Sm at hw
  unfold S_sl16Wants waited
  simp only [rC_v, rT_ss, rT_so, rT_oo, rT_uu, rws_path, rws_i, eta_Control, sLightsOf_v l y h hy, bnd_some, rws_want, len_want, geti_want, geti_i]
  refine filterMap_loop w _ (by omega) (fun k acc => (l, w, acc, lightsOf l y, (k : Int))) some rfl ?_ ?_
  · intro rec acc ha; simp
  · intro rec k x acc hx hk hl
    obtain ⟨h1, h2, h3⟩ := wants_mem ha (mem_at hx)
    simp [hk, getZ_at hx, sFindPath_v _ _ h, getZ_light hc h1, W_n1 (show k ≤ 9223372036854775806 by omega), sMin_v, show W (x.wait + 1) = x.wait + 1 from W_id (by omega) (by omega)]
    by_cases c : lightAt y x.path = 1
    · simp [c]
    · have hb : (if x.wait + 1 < 100000 then x.wait + 1 else 100000) = bump x.wait := by unfold bump; split <;> split <;> omega
      simp [c, show (lightAt y x.path != 1) = true from bne_iff_ne.2 c, hb, appe_want, show (acc.length + 1) * 16 ≤ 140737488355328 by omega, show acc.length ≤ 1152921504606846975 by omega]
theorem waited_sm {y : Control} {w : List Want} (h : Sm w) : Sm (waited y w) := Nat.le_trans (List.length_filterMap_le _ _) h
def shorter (r : Prio) : Prio := if r.left ≤ 1 then ⟨0, 0⟩ else ⟨r.path, r.left - 1⟩
theorem prio_left {l : List Path} {x : Prio} (h : isPrio l x = true) : 0 ≤ x.left ∧ x.left ≤ 20 := by
  unfold isPrio inR at h
  simp only [Bool.and_eq_true, Bool.or_eq_true, decide_eq_true_eq] at h
  rcases h.2 with h | h
  · rw [h]; exact ⟨by decide, by decide⟩
  · omega
theorem town_parts {t : Town} (h : isTown t = true) : isControl t.paths t.control = true ∧ areWants t.paths t.wants = true ∧ isPrio t.paths t.prio = true ∧ areLamps t.paths t.lamps = true ∧ isRecord t.record = true ∧ t.record ≠ [] ∧ (0 ≤ t.books ∧ t.books ≤ 1000) ∧ (0 ≤ t.now ∧ t.now ≤ 1000000) ∧ t.record.length ≤ 60 := by
  unfold isTown inR at h
  simp only [Bool.and_eq_true, decide_eq_true_eq, Bool.not_eq_true'] at h
  have hr := h.1.1.1.1.1.1.2
  refine ⟨h.1.1.1.1.1.1.1.1.1.1, h.1.1.1.1.1.1.1.1.1.2, h.1.1.1.1.1.1.1.1.2, h.1.1.1.1.1.1.1.2, hr, fun e => ?_, h.1.2, h.2, ?_⟩
  · have := h.1.1.1.1.1.2
    rw [e] at this
    cases this
  · unfold isRecord at hr
    rw [Bool.and_eq_true, decide_eq_true_eq] at hr
    exact hr.1
theorem sModeOf_v (t : Town) (h : SmTown t) : S_sModeOf t = some (mode t.paths t.lamps t.power) := by
  unfold S_sModeOf
  simp [sModeFor_v _ _ _ h.1 h.2.2.2.1]
theorem iModeOf_v (t : Town) (h : SmTown t) : S_iModeOf t = some (mode t.paths t.lamps t.power) := by
  unfold S_iModeOf
  simp [iModeFor_v _ _ _ h.1 h.2.2.2.1]
theorem note_smT {t u : Town} (h : isTown t = true) (hr : u.record = t.record) (hu : SmTown u) : SmTown (note u) := note_sm hu (by rw [hr]; have := (town_parts h).2.2.2.2.2.2.2.2; omega)
theorem sNote_vT {t u : Town} (h : isTown t = true) (hr : u.record = t.record) (hb : u.books = t.books) (hu : SmTown u) : S_sl34Note u = some (note u) := by
  have := town_parts h
  exact sl34Note_v u hu (by rw [hr]; omega) (by rw [hb]; omega)
def helped (t : Town) (p : Int) : Town :=
  if mode t.paths t.lamps t.power = 0 then { t with now := t.now + 1, control := siren t.paths t.control p, wants := waited (siren t.paths t.control p) t.wants, prio := shorter t.prio } else { t with now := t.now + 1 }
def stepHelp (t : Town) (p : Int) : Town × Bool := if isTown t && isRoad t.paths p then stepped t (note (helped t p)) true else (t, false)
theorem helped_sm {t : Town} (h : SmTown t) (p : Int) : SmTown (helped t p) := by
  obtain ⟨h0, h1, h2, h3, h4⟩ := h
  unfold helped
  split
  · exact ⟨h0, siren_sm h1, waited_sm h2, h3, h4⟩
  · exact ⟨h0, h1, h2, h3, h4⟩
theorem helped_record (t : Town) (p : Int) : (helped t p).record = t.record ∧ (helped t p).books = t.books := by
  unfold helped
  split <;> exact ⟨rfl, rfl⟩
theorem sStepHelp_v (t : Town) (p : Int) (h : SmTown t) : S_sStepHelp t p = some (stepHelp t p) := by
  have hh := helped_sm h p
  obtain ⟨hr, hb⟩ := helped_record t p
  unfold S_sStepHelp stepHelp isRoad
  simp only [rC_v, rT_ss, rT_so, rT_oo, rT_uu, rws_path, rws_i, rws_want, rws_lamp, rws_note_ss, rws_note_so, rws_note_oo, eta_Control, eta_Town, sFindPath_v _ _ h.1, sl33Copy_v t h, sIsTown_v t h, sModeOf_v t h, sStepSiren_v _ _ p h.1 h.2.1, bnd_some, geti_path]
  cases ht : isTown t with
  | false => simp
  | true =>
    by_cases hf : findPath t.paths p < 0
    · simp [hf]
    · simp only [hf, decide_false, cnd_ff, getZ_find hf, Bool.not_true, Bool.not_false, Bool.true_and]
      by_cases hk : (pathAt t.paths p).kind = 2
      · simp [hk]
      · simp only [show ((pathAt t.paths p).kind == 2) = false from beq_eq_false_iff_ne.2 hk, show ((pathAt t.paths p).kind != 2) = true from bne_iff_ne.2 hk, cnd_ff, if_true]
        obtain ⟨p1, p2, p3, p4, p5, p6, p7, p8, p9⟩ := town_parts ht
        have hl := prio_left p3
        have hw := sl16Wants_v t.paths (siren t.paths t.control p) t.wants h.1 (siren_sm h.2.1) h.2.2.1 (siren_control p1) p2
        have e := sNote_vT ht hr hb hh
        have hn := note_smT ht hr hh
        rw [show W (t.now + 1) = t.now + 1 from W_id (by omega) (by omega)]
        unfold helped at e hn ⊢
        by_cases c : mode t.paths t.lamps t.power = 0
        · simp only [c, if_true] at e hn ⊢
          simp only [beq_self_eq_true, cnd_tt, hw, bnd_some]
          by_cases c2 : t.prio.left > 1
          · have hs : shorter t.prio = ⟨t.prio.path, t.prio.left - 1⟩ := by unfold shorter; rw [if_neg (by omega)]
            rw [hs] at e hn ⊢
            simp [c2, e, eta_Control, eta_Town, sl34Done_v t _ true h hn, show W (t.prio.left - 1) = t.prio.left - 1 from W_id (by omega) (by omega)]
          · have hs : shorter t.prio = ⟨0, 0⟩ := by unfold shorter; rw [if_pos (by omega)]
            rw [hs] at e hn ⊢
            simp [c2, e, eta_Control, eta_Town, sl34Done_v t _ true h hn]
        · simp only [c, if_false] at e hn ⊢
          simp [show (mode t.paths t.lamps t.power == 0) = false from beq_eq_false_iff_ne.2 c, e, eta_Control, eta_Town, sl34Done_v t _ true h hn]
theorem stepHelp_sm {t : Town} (h : SmTown t) (p : Int) : SmTown (stepHelp t p).1 := by
  unfold stepHelp
  split
  · rename_i hc
    rw [Bool.and_eq_true] at hc
    exact stepped_sm h (note_smT hc.1 (helped_record t p).1 (helped_sm h p))
  · exact h
theorem while_loop {α V β : Type} (l : List α) (p : α → Bool) (hl : l.length ≤ 1099511627776) (st : Nat → V) (R : Nat → Option β) {F : (V → Option β) → V → Option β} {v : V} (hv : v = st 0)
    (h0 : ∀ rec, F rec (st l.length) = R l.length)
    (h1 : ∀ rec k x, l[k]? = some x → k < l.length → F rec (st k) = if p x = true then rec (st (k + 1)) else R k) : iter F NN v = R (l.takeWhile p).length := by
  refine (iter_list0 l (by omega) (fun k (_ : Unit) => st k) () (fun s k _ => R (k + (s.takeWhile p).length)) hv ?_ ?_).trans (by simp)
  · intro rec _; rw [h0]; simp
  · intro rec k x _ hx hk hr
    rw [h1 rec k x hx hk, List.takeWhile_cons]
    cases p x with
    | true =>
      simp only [if_true]
      rw [hr ()]
      congr 1
      simp
      omega
    | false => simp
def putW (w : List Want) (p : Int) (k : Nat) : List Want := w.take k ++ [(⟨p, 0⟩ : Want)] ++ w.drop k
def addWant (l : List Path) (w : List Want) (p : Int) : List Want × Bool :=
  if areWants l (putW w p (w.takeWhile fun x => decide (x.path < p)).length) = true then (putW w p (w.takeWhile fun x => decide (x.path < p)).length, true) else (w, false)
theorem putW_len (w : List Want) (p : Int) {k : Nat} (hk : k ≤ w.length) : (putW w p k).length = w.length + 1 := by
  unfold putW
  simp only [List.length_append, List.length_take, List.length_drop, List.length_singleton]
  omega
theorem takeWhile_le {α : Type} (p : α → Bool) (l : List α) : (l.takeWhile p).length ≤ l.length := (List.takeWhile_sublist p).length_le
theorem rws_put (w : List Want) (p : Int) (k : Nat) {β : Type} (K : List Want → Option β) : rws wantR (((w.take k).map wantR.enc ++ [[I p, I 0]]) ++ (w.drop k).map wantR.enc) K = K (putW w p k) := by
  have e : ((w.take k).map wantR.enc ++ [[I p, I 0]]) ++ (w.drop k).map wantR.enc = (putW w p k).map wantR.enc := by
    have h1 := List.map_append (f := wantR.enc) (l₁ := w.take k ++ [(⟨p, 0⟩ : Want)]) (l₂ := w.drop k)
    have h2 := List.map_append (f := wantR.enc) (l₁ := w.take k) (l₂ := [(⟨p, 0⟩ : Want)])
    exact (h1.trans (congrArg (· ++ _) h2)).symm
  rw [e]
  exact rws_want _ _
theorem rws_put2 (w : List Want) (p : Int) (k : Nat) {β : Type} (K : List Want → Option β) : rws wantR (((w.take k).map wantR.enc ++ [[I p, I 0]]) ++ ((w.take w.length).drop k).map wantR.enc) K = K (putW w p k) := by
  rw [List.take_length]
  exact rws_put w p k K
theorem sAddWant_v (l : List Path) (w : List Want) (p : Int) (hl : Sm l) (hw : Sm w) : S_sAddWant l w p = some (addWant l w p) := by
  have hw' := hw
  unfold Sm at hw'
  have hk := takeWhile_le (fun x : Want => decide (x.path < p)) w
  unfold S_sAddWant
  simp only [rC_v, rT_ss, rT_so, rT_oo, rT_uu, rws_path, rws_want, len_want, geti_want]
  refine (while_loop w (fun x => decide (x.path < p)) (by omega) (fun k => (l, w, p, (k : Int))) (fun k => some (if areWants l (putW w p k) = true then (putW w p k, true) else (w, false))) rfl ?_ ?_).trans rfl
  · intro rec
    rw [show decide (((w.length : Nat) : Int) < ((w.length : Nat) : Int)) = false from decide_eq_false (by omega), cnd_ff]
    simp only [Int.toNat_natCast, show Int.toNat 0 = 0 from rfl, List.drop_zero, take_want, drop_want, clrs_want, len_want, List.length_nil, List.length_append, List.length_take, List.length_drop, List.length_singleton, rws_put2, sAreWants_vL l (putW w p w.length) hl (by rw [putW_len w p (Nat.le_refl _)]; omega), bnd_some]
    rw [ifA_pos (by omega), ifA_pos (by omega), ifA_pos (by omega), ifA_pos (by omega), ifA_pos (by omega)]
    cases areWants l (putW w p w.length) with
    | true => simp
    | false =>
      simp only [Bool.not_false, cnd_tt, rws_want]
      rw [ifA_pos (by omega)]
      simp
  · intro rec k x hx hkl
    rw [show decide (((k : Nat) : Int) < ((w.length : Nat) : Int)) = true from decide_eq_true (by omega), cnd_tt, getZ_at hx]
    by_cases c : x.path < p
    · simp [c, W_n1 (show k ≤ 9223372036854775806 by omega)]
    rw [decide_eq_false c, cnd_ff, if_neg (by simp)]
    simp only [Int.toNat_natCast, show Int.toNat 0 = 0 from rfl, List.drop_zero, take_want, drop_want, clrs_want, len_want, List.length_nil, List.length_append, List.length_take, List.length_drop, List.length_singleton, rws_put2, sAreWants_vL l (putW w p k) hl (by rw [putW_len w p (by omega)]; omega), bnd_some]
    rw [ifA_pos (by omega), ifA_pos (by omega), ifA_pos (by omega), ifA_pos (by omega), ifA_pos (by omega)]
    cases areWants l (putW w p k) with
    | true => simp
    | false =>
      simp only [Bool.not_false, cnd_tt, rws_want]
      rw [ifA_pos (by omega)]
      simp
theorem goP_paths : ∀ {l : List Path} {pv : Option Int}, goP pv l = true → ∀ x ∈ l, isPath x = true
  | [], _, _, x, hx => by cases hx
  | y :: l, none, h, x, hx => by
    simp only [goP, Bool.and_eq_true] at h
    rcases List.mem_cons.1 hx with rfl | hx
    · exact h.1
    · exact goP_paths h.2 x hx
  | y :: l, some i, h, x, hx => by
    simp only [goP, Bool.and_eq_true] at h
    rcases List.mem_cons.1 hx with rfl | hx
    · exact h.1.1
    · exact goP_paths h.2 x hx
theorem are_ids {l : List Path} (h : arePaths l = true) {p : Int} (hp : ¬ findPath l p < 0) : 1 ≤ p ∧ p ≤ 20 := by
  obtain ⟨i, x, h1, h2, h3⟩ := findPath_lt hp
  unfold arePaths at h
  rw [Bool.and_eq_true] at h
  have := goP_paths h.2 x (mem_at h1)
  unfold isPath inR at this
  simp only [Bool.and_eq_true, decide_eq_true_eq] at this
  rw [← h3]
  exact this.1.1.1.1
theorem goW_len {l : List Path} (h : arePaths l = true) : ∀ {w : List Want} {q : Int}, 0 ≤ q → goW l (some q) w = true → q + w.length ≤ 20 ∨ w = []
  | [], _, _, _ => .inr rfl
  | y :: w, q, hq, hg => by
    simp only [goW, Bool.and_eq_true] at hg
    have h1 : q < y.path := by simpa [later] using hg.1.2
    have h2 : ¬ findPath l y.path < 0 := by
      have := hg.1.1
      unfold wantOk at this
      simp only [Bool.and_eq_true, Bool.not_eq_true', decide_eq_false_iff_not] at this
      exact this.1
    have h3 := are_ids h h2
    refine .inl ?_
    rw [List.length_cons]
    rcases goW_len h (by omega) hg.2 with h4 | h4
    · omega
    · rw [h4]
      simp
      omega
theorem wants_len {l : List Path} {w : List Want} (h : areWants l w = true) : w.length ≤ 20 := by
  unfold areWants at h
  rw [Bool.and_eq_true] at h
  cases w with
  | nil => simp
  | cons y w =>
    have hg : goW l (some 0) (y :: w) = true := by
      have h2 := h.2
      simp only [goW, Bool.and_eq_true] at h2 ⊢
      refine ⟨⟨h2.1.1, ?_⟩, h2.2⟩
      have : ¬ findPath l y.path < 0 := by
        have := h2.1.1
        unfold wantOk at this
        simp only [Bool.and_eq_true, Bool.not_eq_true', decide_eq_false_iff_not] at this
        exact this.1
      have := are_ids h.1 this
      simp [later]
      omega
    rcases goW_len h.1 (by omega) hg with h4 | h4
    · omega
    · cases h4
theorem addWant_sm {l : List Path} {w : List Want} {p : Int} (h : Sm w) : Sm (addWant l w p).1 := by
  unfold addWant
  split
  · rename_i hc
    have := wants_len hc
    unfold Sm
    simp only
    omega
  · exact h
def stepCall (t : Town) (p : Int) : Town × Bool := stepped t { t with wants := (addWant t.paths t.wants p).1 } (addWant t.paths t.wants p).2
theorem sStepCall_v (t : Town) (p : Int) (h : SmTown t) : S_sStepCall t p = some (stepCall t p) := by
  have h' : SmTown { t with wants := (addWant t.paths t.wants p).1 } := ⟨h.1, h.2.1, addWant_sm h.2.2.1, h.2.2.2⟩
  unfold S_sStepCall stepCall
  simp only [rC_v, rT_ss, rT_so, rT_oo, rT_uu, rws_path, rws_i, rws_want, rws_lamp, rws_note_ss, rws_note_so, rws_note_oo, eta_Control, eta_Town, sl33Copy_v t h, sAddWant_v _ _ p h.1 h.2.2.1, bnd_some, sl34Done_v t _ _ h h']
theorem stepCall_sm {t : Town} (h : SmTown t) (p : Int) : SmTown (stepCall t p).1 := stepped_sm h ⟨h.1, h.2.1, addWant_sm h.2.2.1, h.2.2.2⟩
def longer (s : List Int) (b : Option Want) (y : Want) : Option Want := if has s y.path = true then b else match b with | none => some y | some x => if x.wait < y.wait then some y else some x
def longestId (w : List Want) (s : List Int) : Int := match w.foldl (longer s) none with | none => 0 | some x => x.path
def bestW (w : List Want) (b : Int) : Option Want := if b < 0 then none else w[b.toNat]?
theorem sLongestWant_v (w : List Want) (s : List Int) (hw : Sm w) (hs : Sm s) : S_sLongestWant w s = some (longestId w s) := by
  have hw' := hw
  unfold Sm at hw'
  unfold S_sLongestWant
  simp only [rC_v, rT_ss, rT_so, rT_oo, rT_uu, rws_want, rws_i, len_want, geti_want]
  refine (iter_listJ w (by omega) (fun k (b : Int) => (w, s, b, (k : Int))) (-1) (fun _ b => b = -1 ∨ ∃ (n : Nat) (x : Want), b = n ∧ w[n]? = some x) (.inl rfl) (fun r _ b => some (match r.foldl (longer s) (bestW w b) with | none => 0 | some x => x.path)) rfl ?_ ?_).trans ?_
  · intro rec b hJ
    rcases hJ with rfl | ⟨n, x, rfl, hx⟩
    · simp [bestW]
    · simp [bestW, getZ_at hx, hx, show ¬ ((n : Int) < 0) by omega]
  · intro rec k x b hJ hx hk hr
    simp only [Int.natCast_succ] at hr
    have hk2 : k ≤ 9223372036854775806 := by omega
    simp only [show decide (((k : Nat) : Int) < ((w.length : Nat) : Int)) = true from decide_eq_true (by omega), cnd_tt, getZ_at hx, sl6Has_v s _ hs, bnd_some, W_n1 hk2, List.foldl_cons]
    have hk' : bestW w (k : Int) = some x := by simp [bestW, hx, show ¬ ((k : Int) < 0) by omega]
    cases hh : has s x.path with
    | true => simp [longer, hh, hr b hJ]
    | false =>
      have h2 := hr (k : Int) (.inr ⟨k, x, rfl, hx⟩)
      rcases hJ with rfl | ⟨n, y, rfl, hy⟩
      · simp [longer, hh, h2, hk', show bestW w (-1) = none from rfl]
      · have hn' : bestW w (n : Int) = some y := by simp [bestW, hy, show ¬ ((n : Int) < 0) by omega]
        have h3 := hr (n : Int) (.inr ⟨n, y, rfl, hy⟩)
        simp only [hn', Bool.not_false, cnd_tt, show decide ((n : Int) < 0) = false from decide_eq_false (by omega), cnd_ff, getZ_at hy]
        by_cases c : x.wait > y.wait
        · simp [longer, hh, c, h2, hk']
        · simp [longer, hh, c, h3, hn', show ¬ y.wait < x.wait by omega]
  · rfl
def canEnd (l : List Path) (x : Control) : Bool := isControl l x && (x.next.isEmpty && decide (x.since ≥ leastGreen l x.stage))
theorem sCanEnd_v (l : List Path) (x : Control) (h : Sm l) (hx : SmControl x) : S_sCanEnd l x = some (canEnd l x) := by
  unfold S_sCanEnd canEnd
  simp only [rC_v, rT_ss, rT_so, rT_oo, rT_uu, rws_path, rws_i, eta_Control, sIsControl_v l x h hx, bnd_some, len_i, len0, sLeastGreen_v l _ h hx.1]
  cases isControl l x <;> cases x.next.isEmpty <;> simp
def bsNone : ByteArray := ByteArray.mk (List.toArray [])
def bsHold : ByteArray := ByteArray.mk (List.toArray [104, 111, 108, 100])
def bsCall : ByteArray := ByteArray.mk (List.toArray [99, 97, 108, 108])
def wish (l : List Path) (x : Control) (r : Prio) : ByteArray :=
  if isControl l x && (isPrio l r && !(r.path == 0)) then (if has x.stage r.path && x.next.isEmpty then bsHold else if !has x.stage r.path && canEnd l x then bsCall else bsNone) else bsNone
theorem sPrioWish_v (l : List Path) (x : Control) (r : Prio) (h : Sm l) (hx : SmControl x) : S_sPrioWish l x r = some (wish l x r) := by
  unfold S_sPrioWish wish bsNone bsHold bsCall
  simp only [rC_v, rT_ss, rT_so, rT_oo, rT_uu, rws_path, rws_i, eta_Control, sIsControl_v l x h hx, bnd_some, len_i, len0, sIsPrio_v l _ h, sl6Has_v _ _ hx.1, sCanEnd_v l x h hx]
  cases isControl l x <;> cases isPrio l r <;> cases (r.path == 0) <;> cases has x.stage r.path <;> cases x.next.isEmpty <;> cases canEnd l x <;> rfl
def low (l : List Int) (n : Int) : Nat := (l.takeWhile fun x => decide (x < n)).length
theorem low_le (l : List Int) (n : Int) : low l n ≤ l.length := takeWhile_le _ _
def ins (l : List Int) (n : Int) : List Int := l.take (low l n) ++ [n] ++ l.drop (low l n)
def putI (l : List Int) (n : Int) : List Int := if l[low l n]? = some n then l else ins l n
theorem ins_len (l : List Int) (n : Int) : (ins l n).length = l.length + 1 := by
  have := low_le l n
  unfold ins
  simp only [List.length_append, List.length_take, List.length_drop, List.length_singleton]
  omega
theorem rws_ins (l : List Int) (n : Int) (k : Nat) {β : Type} (K : List Int → Option β) : rws iR (((l.take k).map iR.enc ++ [[I n]]) ++ (l.drop k).map iR.enc) K = K (l.take k ++ [n] ++ l.drop k) := by
  have e : ((l.take k).map iR.enc ++ [[I n]]) ++ (l.drop k).map iR.enc = (l.take k ++ [n] ++ l.drop k).map iR.enc := by
    have h1 := List.map_append (f := iR.enc) (l₁ := l.take k ++ [n]) (l₂ := l.drop k)
    have h2 := List.map_append (f := iR.enc) (l₁ := l.take k) (l₂ := [n])
    exact (h1.trans (congrArg (· ++ _) h2)).symm
  rw [e]
  exact rws_i _ _
theorem rws_ins2 (l : List Int) (n : Int) (k : Nat) {β : Type} (K : List Int → Option β) : rws iR (((l.take k).map iR.enc ++ [[I n]]) ++ ((l.take l.length).drop k).map iR.enc) K = K (l.take k ++ [n] ++ l.drop k) := by
  rw [List.take_length]
  exact rws_ins l n k K
theorem sl6Put_v (l : List Int) (n : Int) (h : Sm l) : S_sl6Put l n = some (putI l n) := by
  have h' := h
  unfold Sm at h'
  unfold S_sl6Put
  simp only [rC_v, rT_ss, rT_so, rT_oo, rT_uu, rws_i, len_i, geti_i]
  have hk := low_le l n
  refine (while_loop l (fun x => decide (x < n)) (by omega) (fun k => (l, n, (k : Int))) (fun k => some (if l[k]? = some n then l else l.take k ++ [n] ++ l.drop k)) rfl ?_ ?_).trans rfl
  · intro rec
    rw [show decide (((l.length : Nat) : Int) < ((l.length : Nat) : Int)) = false from decide_eq_false (by omega), cnd_ff, cnd_ff]
    simp only [Int.toNat_natCast, show Int.toNat 0 = 0 from rfl, List.drop_zero, take_i, drop_i, clrs_i, len_i, List.length_nil, List.length_append, List.length_take, List.length_drop, List.length_singleton, rws_ins2]
    rw [ifA_pos (by omega), ifA_pos (by omega), ifA_pos (by omega), ifA_pos (by omega), ifA_pos (by omega)]
    rw [if_neg (by simp)]
  · intro rec k x hx hkl
    rw [show decide (((k : Nat) : Int) < ((l.length : Nat) : Int)) = true from decide_eq_true (by omega), cnd_tt, getZ_at hx]
    by_cases c : x < n
    · simp [c, W_n1 (show k ≤ 9223372036854775806 by omega)]
    rw [decide_eq_false c, cnd_ff, cnd_tt, getZ_at hx, if_neg (by simp), hx]
    simp only [rC_v, rT_ss, rT_so, rT_oo, rT_uu, Int.toNat_natCast, show Int.toNat 0 = 0 from rfl, List.drop_zero, take_i, drop_i, clrs_i, len_i, List.length_nil, List.length_append, List.length_take, List.length_drop, List.length_singleton, rws_ins2, rws_i]
    by_cases c2 : x = n
    · subst c2
      rw [beq_self_eq_true, cnd_tt, ifA_pos (by omega), if_pos rfl]
    · rw [show (x == n) = false from beq_eq_false_iff_ne.2 c2, cnd_ff, ifA_pos (by omega), ifA_pos (by omega), ifA_pos (by omega), ifA_pos (by omega), ifA_pos (by omega), if_neg (by simp [c2])]
theorem goT_spec {l : List Path} {ids : List Int} : ∀ {r : List Int} {k : Nat}, goT l ids k r = true → ∀ i x, r[i]? = some x → ¬ findPath l x < 0 ∧ prevOk ids (k + i) x = true
  | [], k, h, i, x, hx => by cases hx
  | y :: r, k, h, i, x, hx => by
    unfold goT at h
    simp only [Bool.and_eq_true, Bool.not_eq_true', decide_eq_false_iff_not] at h
    cases i with
    | zero => cases hx; exact ⟨h.1.1.1, h.1.1.2⟩
    | succ i =>
      have := goT_spec h.2 i x hx
      rwa [show k + 1 + i = k + (i + 1) by omega] at this
theorem together_at {l : List Path} {a : List Int} (h : together l a = true) : ∀ (i : Nat) (x : Int), a[i]? = some x → ¬ findPath l x < 0 ∧ prevOk a i x = true := fun i x hx => by
  unfold together at h
  rw [Bool.and_eq_true] at h
  simpa using goT_spec h.1 i x hx
theorem together_next {l : List Path} {a : List Int} (h : together l a = true) {i : Nat} {x y : Int} (hx : a[i]? = some x) (hy : a[i + 1]? = some y) : x < y := by
  have := (together_at h (i + 1) y hy).2
  unfold prevOk at this
  rw [if_neg (by omega), Nat.add_sub_cancel, hx] at this
  simpa using this
theorem together_len {l : List Path} {a : List Int} (h : together l a = true) : a.length ≤ 20 := by
  have ha := together_are h
  have ge : ∀ (i : Nat) (x : Int), a[i]? = some x → (i : Int) + 1 ≤ x := fun i => by
    induction i with
    | zero =>
      intro x hx
      have := are_ids ha (together_at h 0 x hx).1
      omega
    | succ i ih =>
      intro x hx
      have hl := (List.getElem?_eq_some_iff.1 hx).1
      have hz : a[i]? = some a[i] := List.getElem?_eq_getElem (by omega)
      have h1 := ih _ hz
      have h2 := together_next h hz hx
      omega
  rcases Nat.eq_zero_or_pos a.length with h0 | h0
  · omega
  · have hz : a[a.length - 1]? = some a[a.length - 1] := List.getElem?_eq_getElem (by omega)
    have h1 := ge _ _ hz
    have h2 := are_ids ha (together_at h _ _ hz).1
    omega
theorem together_sm {l : List Path} {a : List Int} (h : together l a = true) : Sm a := by
  have := together_len h
  unfold Sm
  omega
def more (l : List Path) (a : List Int) (p : Path) : List Int := if together l (putI a p.id) = true then putI a p.id else a
def addToStage (l : List Path) (ids : List Int) : List Int := if together l ids = true then l.foldl (more l) ids else ids
theorem more_together {l : List Path} {a : List Int} {p : Path} (h : together l a = true) : together l (more l a p) = true := by
  unfold more
  split
  · assumption
  · exact h
theorem putI_sm {l : List Path} {a : List Int} (h : together l a = true) (n : Int) : Sm (putI a n) := by
  have := together_len h
  unfold putI
  split
  · exact together_sm h
  · unfold Sm
    rw [ins_len]
    omega
theorem fold_together {l : List Path} : ∀ {r : List Path} {a : List Int}, together l a = true → together l (r.foldl (more l) a) = true
  | [], a, h => h
  | p :: r, a, h => by
    rw [List.foldl_cons]
    exact fold_together (more_together h)
theorem addToStage_sm {l : List Path} {ids : List Int} (h : Sm ids) : Sm (addToStage l ids) := by
  unfold addToStage
  split
  · rename_i hc; exact together_sm (fold_together hc)
  · exact h
theorem sAddToStage_v (l : List Path) (ids : List Int) (hl : Sm l) (hi : Sm ids) : S_sAddToStage l ids = some (addToStage l ids) := by
  have hl' := hl
  have hi' := hi
  unfold Sm at hl' hi'
  unfold S_sAddToStage
  simp only [rC_v, rT_ss, rT_so, rT_oo, rT_uu, rws_path, rws_i, len_path, len_i, geti_path, clrs_i]
  rw [ifA_pos (by simp; omega)]
  refine (iter_listJ l (by omega) (fun k (a : List Int) => (l, ids, a, (k : Int))) ids (fun _ a => (together l ids = true → together l a = true) ∧ (together l ids = false → a = ids)) ⟨fun h => h, fun _ => rfl⟩ (fun r _ a => some (if together l ids = true then r.foldl (more l) a else ids)) rfl ?_ ?_).trans ?_
  · intro rec a hJ
    rw [show decide (((l.length : Nat) : Int) < ((l.length : Nat) : Int)) = false from decide_eq_false (by omega), cnd_ff]
    cases hc : together l ids with
    | true => simp
    | false => simp [hJ.2 hc]
  · intro rec k p a hJ hx hk hr
    simp only [Int.natCast_succ] at hr
    simp only [show decide (((k : Nat) : Int) < ((l.length : Nat) : Int)) = true from decide_eq_true (by omega), cnd_tt, sIsTogether_v l ids hl hi, bnd_some, getZ_at hx, W_n1 (show k ≤ 9223372036854775806 by omega)]
    cases hc : together l ids with
    | false => simp [hJ.2 hc]
    | true =>
      have ha := hJ.1 hc
      have e := hr (more l a p) ⟨fun _ => more_together ha, fun h => by rw [hc] at h; cases h⟩
      rw [hc, if_pos rfl] at e
      simp only [cnd_tt, sl6Put_v a p.id (together_sm ha), bnd_some, sIsTogether_v l _ hl (putI_sm ha p.id), if_true, List.foldl_cons]
      unfold more at e ⊢
      cases hd : together l (putI a p.id) <;> simp [hd] at e ⊢ <;> exact e
  · rfl
def nextStage (l : List Path) (x : Control) (w : List Want) : List Int :=
  if longestId w x.stage = 0 then [] else if isControl l x && areWants l w then addToStage l [longestId w x.stage] else []
theorem sm_nil : Sm ([] : List Int) := by unfold Sm; simp
theorem nextStage_sm (l : List Path) (x : Control) (w : List Want) : Sm (nextStage l x w) := by
  unfold nextStage
  split
  · exact sm_nil
  · split
    · exact addToStage_sm (sm_one _)
    · exact sm_nil
theorem sNextStage_v (l : List Path) (x : Control) (w : List Want) (h : Sm l) (hx : SmControl x) (hw : Sm w) : S_sNextStage l x w = some (nextStage l x w) := by
  unfold S_sNextStage nextStage
  simp only [rC_v, rT_ss, rT_so, rT_oo, rT_uu, rws_path, rws_i, rws_want, eta_Control, sLongestWant_v w _ hw hx.1, sIsControl_v l x h hx, sAreWants_v l w h hw, sAddToStage_v l _ h (sm_one _), bnd_some]
  by_cases c : longestId w x.stage = 0
  · simp [c]
  · rw [show (longestId w x.stage == 0) = false from beq_eq_false_iff_ne.2 c, cnd_ff, if_neg c]
    cases isControl l x <;> cases areWants l w <;> simp [sAddToStage_v l _ h (sm_one _)]
def mustChange (l : List Path) (x : Control) (w : List Want) : Bool :=
  canEnd l x && (!(nextStage l x w).isEmpty && (decide (x.since ≥ 60) || !w.any fun y => has x.stage y.path))
theorem gt0 {α : Type} (l : List α) : decide (((l.length : Nat) : Int) > 0) = !l.isEmpty := by
  cases l with
  | nil => rfl
  | cons x l => simp
theorem sMustChange_v (l : List Path) (x : Control) (w : List Want) (h : Sm l) (hx : SmControl x) (hw : Sm w) : S_sMustChange l x w = some (mustChange l x w) := by
  have hw' := hw
  unfold Sm at hw'
  unfold S_sMustChange mustChange
  simp only [rC_v, rT_ss, rT_so, rT_oo, rT_uu, rws_path, rws_i, rws_want, eta_Control, len_want, geti_want]
  refine (iter_list0 w (by omega) (fun k (b : Bool) => ((l, w, b, (k : Int)), x)) false (fun r _ b => some (canEnd l x && (!(nextStage l x w).isEmpty && (decide (x.since ≥ 60) || !(b || r.any fun y => has x.stage y.path))))) rfl ?_ ?_).trans (by simp)
  · intro rec b
    rw [show decide (((w.length : Nat) : Int) < ((w.length : Nat) : Int)) = false from decide_eq_false (by omega), cnd_ff]
    simp only [sCanEnd_v l x h hx, bnd_some, sNextStage_v l x w h hx hw, len_i, gt0]
    cases canEnd l x <;> cases (nextStage l x w).isEmpty <;> cases b <;> simp
  · intro rec k y b hy hk hr
    simp only [Int.natCast_succ] at hr
    simp only [show decide (((k : Nat) : Int) < ((w.length : Nat) : Int)) = true from decide_eq_true (by omega), cnd_tt, W_n1 (show k ≤ 9223372036854775806 by omega), getZ_at hy, sl6Has_v _ _ hx.1, bnd_some, List.any_cons]
    cases b with
    | true => simp [hr true]
    | false => simp [hr (has x.stage y.path)]
def askStage (l : List Path) (x : Control) (st : List Int) : Control × Bool :=
  if canEnd l x && (!st.isEmpty && (together l st && !decide (st = x.stage))) then
    (if clearBetween l x.stage st = 0 then ⟨st, 0, [], 0⟩ else ⟨x.stage, x.since, st, clearBetween l x.stage st⟩, true) else (x, false)
theorem sAskStage_v (l : List Path) (x : Control) (st : List Int) (h : Sm l) (hx : SmControl x) (hs : Sm st) : S_sAskStage l x st = some (askStage l x st) := by
  have hs' := hs
  unfold Sm at hs'
  unfold S_sAskStage askStage
  simp only [rC_v, rT_ss, rT_so, rT_oo, rT_uu, rws_path, rws_i, eta_Control, sl14Copy_v x hx, sCanEnd_v l x h hx, bnd_some, len_i, len0, sIsTogether_v l st h hs, sEqualInts_v st x.stage hs, sClearBetween_v l _ _ h hx.1 hs, clrs_i]
  cases canEnd l x with
  | false => simp [eta_Control]
  | true =>
  cases st.isEmpty with
  | true => simp [eta_Control]
  | false =>
  cases together l st with
  | false => simp [eta_Control]
  | true =>
  cases decide (st = x.stage) with
  | true => simp [eta_Control]
  | false =>
    simp only [Bool.not_true, Bool.not_false, cnd_ff, cnd_tt]
    rw [ifA_pos (by simp; omega)]
    by_cases c : clearBetween l x.stage st = 0
    · simp [c]
    · simp [c, show (clearBetween l x.stage st == 0) = false from beq_eq_false_iff_ne.2 c]
      rw [ifA_pos (by omega)]
theorem askStage_sm {l : List Path} {x : Control} {st : List Int} (hx : SmControl x) (hs : Sm st) : SmControl (askStage l x st).1 := by
  unfold askStage
  split
  · simp only
    split
    · exact ⟨hs, sm_nil⟩
    · exact ⟨hx.1, hs⟩
  · exact hx
theorem askStage_control {l : List Path} {x : Control} {st : List Int} (h : isControl l x = true) : isControl l (askStage l x st).1 = true := by
  unfold askStage
  split
  · rename_i hc
    simp only [Bool.and_eq_true, Bool.not_eq_true'] at hc
    obtain ⟨_, hne, ht, _⟩ := hc
    obtain ⟨a1, a2, a3⟩ := control_parts h
    obtain ⟨h1, h2⟩ := control_left h
    have ha := together_are a2
    have h0 := clear_le l x.stage st
    have hne' : st ≠ [] := fun e => by rw [e] at hne; cases hne
    simp only
    split
    · simp [isControl, ht, hne, together_nil, ha, inR, hne']
    · simp [isControl, ht, a1, a2, inR, h1, hne']
      omega
  · exact h
def asked (l : List Path) (x : Control) (w : List Want) : Control := if mustChange l x w = true then (askStage l x (nextStage l x w)).1 else tick l x
theorem asked_control {l : List Path} {x : Control} {w : List Want} (h : isControl l x = true) : isControl l (asked l x w) = true := by
  unfold asked
  split
  · exact askStage_control h
  · exact tick_control h
theorem asked_sm {l : List Path} {x : Control} {w : List Want} (hx : SmControl x) : SmControl (asked l x w) := by
  unfold asked
  split
  · exact askStage_sm hx (nextStage_sm l x w)
  · exact tick_sm hx
theorem sStepAsk_v (l : List Path) (x : Control) (w : List Want) (h : Sm l) (hx : SmControl x) (hw : Sm w) : S_sStepAsk l x w = some (if isControl l x && areWants l w then (asked l x w, waited (asked l x w) w) else (x, w)) := by
  have hw' := hw
  unfold Sm at hw'
  unfold S_sStepAsk
  simp only [rC_v, rT_ss, rT_so, rT_oo, rT_uu, rws_path, rws_i, rws_want, eta_Control, sIsControl_v l x h hx, sAreWants_v l w h hw, sl14Copy_v x hx, sTickControl_v l x h hx, sMustChange_v l x w h hx hw, sNextStage_v l x w h hx hw, sAskStage_v l x _ h hx (nextStage_sm l x w), bnd_some, clrs_want, len_want]
  cases hc : isControl l x with
  | false =>
    simp only [Bool.not_false, cnd_tt]
    rw [ifA_pos (by simp; omega)]
    simp
  | true =>
  cases ha : areWants l w with
  | false =>
    simp only [Bool.not_false, Bool.not_true, cnd_tt, cnd_ff]
    rw [ifA_pos (by simp; omega)]
    simp
  | true =>
  simp only [Bool.not_true, cnd_ff, Bool.and_self, if_true]
  cases hm : mustChange l x w with
  | true =>
    have hy : asked l x w = (askStage l x (nextStage l x w)).1 := by unfold asked; rw [if_pos hm]
    have hyc := asked_control (w := w) hc
    have hys := asked_sm (l := l) (w := w) hx
    rw [hy] at hyc hys
    simp only [cnd_tt, sLightsOf_v l _ h hys, bnd_some, hy]
    unfold waited
    refine filterMap_loop w _ (by omega) (fun k acc => ((l, w, acc, lightsOf l (askStage l x (nextStage l x w)).1, (k : Int)), ((⟨[], 0, [], 0⟩ : Control), (askStage l x (nextStage l x w)).1))) (fun acc => some ((askStage l x (nextStage l x w)).1, acc)) rfl ?_ ?_
    · intro rec acc hl; simp [eta_Control]
    · intro rec k z acc hz hk hl
      obtain ⟨h1, h2, h3⟩ := wants_mem ha (mem_at hz)
      simp [hk, getZ_at hz, sFindPath_v _ _ h, getZ_light hyc h1, W_n1 (show k ≤ 9223372036854775806 by omega), sMin_v, show W (z.wait + 1) = z.wait + 1 from W_id (by omega) (by omega), eta_Control]
      by_cases c : lightAt (askStage l x (nextStage l x w)).1 z.path = 1
      · simp [c]
      · have hb : (if z.wait + 1 < 100000 then z.wait + 1 else 100000) = bump z.wait := by unfold bump; split <;> split <;> omega
        simp [c, show (lightAt (askStage l x (nextStage l x w)).1 z.path != 1) = true from bne_iff_ne.2 c, hb, appe_want, show (acc.length + 1) * 16 ≤ 140737488355328 by omega, show acc.length ≤ 1152921504606846975 by omega]
  | false =>
    have hy : asked l x w = tick l x := by unfold asked; rw [if_neg (by rw [hm]; simp)]
    have hyc := asked_control (w := w) hc
    have hys := asked_sm (l := l) (w := w) hx
    rw [hy] at hyc hys
    simp only [cnd_ff, sLightsOf_v l _ h hys, bnd_some, hy]
    unfold waited
    refine filterMap_loop w _ (by omega) (fun k acc => ((l, w, acc, lightsOf l (tick l x), (k : Int)), ((⟨[], 0, [], 0⟩ : Control), (tick l x)))) (fun acc => some ((tick l x), acc)) rfl ?_ ?_
    · intro rec acc hl; simp [eta_Control]
    · intro rec k z acc hz hk hl
      obtain ⟨h1, h2, h3⟩ := wants_mem ha (mem_at hz)
      simp [hk, getZ_at hz, sFindPath_v _ _ h, getZ_light hyc h1, W_n1 (show k ≤ 9223372036854775806 by omega), sMin_v, show W (z.wait + 1) = z.wait + 1 from W_id (by omega) (by omega), eta_Control]
      by_cases c : lightAt (tick l x) z.path = 1
      · simp [c]
      · have hb : (if z.wait + 1 < 100000 then z.wait + 1 else 100000) = bump z.wait := by unfold bump; split <;> split <;> omega
        simp [c, show (lightAt (tick l x) z.path != 1) = true from bne_iff_ne.2 c, hb, appe_want, show (acc.length + 1) * 16 ≤ 140737488355328 by omega, show acc.length ≤ 1152921504606846975 by omega]
def prioStage (l : List Path) (x : Control) (w : List Want) (r : Prio) : Control :=
  if (wish l x r).toList == bsHold.toList then tick l x else if (wish l x r).toList == bsCall.toList then (askStage l x (addToStage l [r.path])).1 else asked l x w
def stepPrio (l : List Path) (x : Control) (w : List Want) (r : Prio) : Control × (List Want × Prio) :=
  if isControl l x && (areWants l w && isPrio l r) then (prioStage l x w r, waited (prioStage l x w r) w, shorter r) else (x, w, r)
theorem prioStage_control {l : List Path} {x : Control} {w : List Want} {r : Prio} (h : isControl l x = true) : isControl l (prioStage l x w r) = true := by
  unfold prioStage
  split
  · exact tick_control h
  · split
    · exact askStage_control h
    · exact asked_control h
theorem prioStage_sm {l : List Path} {x : Control} {w : List Want} {r : Prio} (h : SmControl x) : SmControl (prioStage l x w r) := by
  unfold prioStage
  split
  · exact tick_sm h
  · split
    · exact askStage_sm h (addToStage_sm (sm_one _))
    · exact asked_sm h
theorem shorter_if (r : Prio) : (if r.left > 1 then (⟨r.path, r.left - 1⟩ : Prio) else ⟨0, 0⟩) = shorter r := by
  unfold shorter
  by_cases c : r.left > 1
  · rw [if_pos c, if_neg (by omega)]
  · rw [if_neg c, if_pos (by omega)]
theorem sStepPrio_v (l : List Path) (x : Control) (w : List Want) (r : Prio) (h : Sm l) (hx : SmControl x) (hw : Sm w) : S_sStepPrio l x w r = some (stepPrio l x w r) := by
  have hw' := hw
  unfold Sm at hw'
  unfold S_sStepPrio stepPrio
  simp only [rC_v, rT_ss, rT_so, rT_oo, rT_uu, rws_path, rws_i, rws_want, eta_Control, sIsControl_v l x h hx, sAreWants_v l w h hw, sIsPrio_v l r h, sl14Copy_v x hx, sTickControl_v l x h hx, sStepAsk_v l x w h hx hw, sPrioWish_v l x r h hx, sAddToStage_v l _ h (sm_one _), sAskStage_v l x _ h hx (addToStage_sm (sm_one _)), bnd_some, clrs_want, len_want]
  cases hc : isControl l x with
  | false =>
    simp only [Bool.not_false, cnd_tt]
    rw [ifA_pos (by simp; omega)]
    simp
  | true =>
  cases ha : areWants l w with
  | false =>
    simp only [Bool.not_false, Bool.not_true, cnd_tt, cnd_ff]
    rw [ifA_pos (by simp; omega)]
    simp
  | true =>
  cases hp : isPrio l r with
  | false =>
    simp only [Bool.not_false, Bool.not_true, cnd_tt, cnd_ff]
    rw [ifA_pos (by simp; omega)]
    simp
  | true =>
  have hl := prio_left hp
  have hyc := prioStage_control (w := w) (r := r) hc
  have hys := prioStage_sm (l := l) (w := w) (r := r) hx
  have hwt := sl16Wants_v l (prioStage l x w r) w h hys hw hyc ha
  simp only [Bool.not_true, cnd_ff, Bool.and_self, if_true, show (ByteArray.mk (List.toArray [104, 111, 108, 100])) = bsHold from rfl, show (ByteArray.mk (List.toArray [99, 97, 108, 108])) = bsCall from rfl, show W (r.left - 1) = r.left - 1 from W_id (by omega) (by omega)]
  rw [← shorter_if r]
  unfold prioStage at hwt ⊢
  cases c1 : (wish l x r).toList == bsHold.toList with
  | true =>
    rw [c1, if_pos rfl] at hwt
    simp only [cnd_tt, if_true, hwt, bnd_some]
    by_cases c : r.left > 1 <;> simp [c]
  | false =>
    rw [c1, if_neg (by simp)] at hwt
    cases c2 : (wish l x r).toList == bsCall.toList with
    | true =>
      rw [c2, if_pos rfl] at hwt
      simp only [cnd_tt, cnd_ff, if_true, hwt, bnd_some]
      by_cases c : r.left > 1 <;> simp [c]
    | false =>
      simp only [cnd_ff]
      by_cases c : r.left > 1 <;> simp [c]
def seconded (t : Town) : Town :=
  if mode t.paths t.lamps t.power = 0 then { t with now := t.now + 1, control := (stepPrio t.paths t.control t.wants t.prio).1, wants := (stepPrio t.paths t.control t.wants t.prio).2.1, prio := (stepPrio t.paths t.control t.wants t.prio).2.2 } else { t with now := t.now + 1 }
def stepSecond (t : Town) : Town × Bool := if isTown t = true then stepped t (note (seconded t)) true else (t, false)
theorem stepPrio_sm {l : List Path} {x : Control} {w : List Want} {r : Prio} (hx : SmControl x) (hw : Sm w) : SmControl (stepPrio l x w r).1 ∧ Sm (stepPrio l x w r).2.1 := by
  unfold stepPrio
  split
  · exact ⟨prioStage_sm hx, waited_sm hw⟩
  · exact ⟨hx, hw⟩
theorem seconded_sm {t : Town} (h : SmTown t) : SmTown (seconded t) := by
  obtain ⟨h0, h1, h2, h3, h4⟩ := h
  unfold seconded
  split
  · exact ⟨h0, (stepPrio_sm h1 h2).1, (stepPrio_sm h1 h2).2, h3, h4⟩
  · exact ⟨h0, h1, h2, h3, h4⟩
theorem seconded_record (t : Town) : (seconded t).record = t.record ∧ (seconded t).books = t.books := by
  unfold seconded
  split <;> exact ⟨rfl, rfl⟩
theorem sStepSecond_v (t : Town) (h : SmTown t) : S_sStepSecond t = some (stepSecond t) := by
  have hh := seconded_sm h
  obtain ⟨hr, hb⟩ := seconded_record t
  unfold S_sStepSecond stepSecond
  simp only [rC_v, rT_ss, rT_so, rT_oo, rT_uu, rws_path, rws_i, rws_want, rws_lamp, rws_note_ss, rws_note_so, rws_note_oo, eta_Control, eta_Town, sl33Copy_v t h, sIsTown_v t h, sModeOf_v t h, sStepPrio_v _ _ _ t.prio h.1 h.2.1 h.2.2.1, bnd_some]
  cases ht : isTown t with
  | false => simp
  | true =>
    obtain ⟨p1, p2, p3, p4, p5, p6, p7, p8, p9⟩ := town_parts ht
    have e := sNote_vT ht hr hb hh
    have hn := note_smT ht hr hh
    rw [show W (t.now + 1) = t.now + 1 from W_id (by omega) (by omega)]
    unfold seconded at e hn ⊢
    by_cases c : mode t.paths t.lamps t.power = 0
    · simp only [c, if_true] at e hn ⊢
      simp [e, eta_Control, eta_Town, sl34Done_v t _ true h hn]
    · simp only [c, if_false] at e hn ⊢
      simp [show (mode t.paths t.lamps t.power == 0) = false from beq_eq_false_iff_ne.2 c, e, eta_Control, eta_Town, sl34Done_v t _ true h hn]
theorem stepSecond_sm {t : Town} (h : SmTown t) : SmTown (stepSecond t).1 := by
  unfold stepSecond
  split
  · rename_i hc
    exact stepped_sm h (note_smT hc (seconded_record t).1 (seconded_sm h))
  · exact h
def secs (t : Town) : Nat → Town → Town × Bool
  | 0, u => (u, true)
  | k + 1, u => if (stepSecond u).2 = true then secs t k (stepSecond u).1 else (t, false)
def stepSeconds (t : Town) (n : Int) : Town × Bool := if inR n 1 100 = true then secs t n.toNat t else (t, false)
theorem secs_sm {t : Town} (ht : SmTown t) : ∀ {k : Nat} {u : Town}, SmTown u → SmTown (secs t k u).1
  | 0, u, hu => hu
  | k + 1, u, hu => by
    unfold secs
    split
    · exact secs_sm ht (stepSecond_sm hu)
    · exact ht
theorem stepSeconds_sm {t : Town} (h : SmTown t) (n : Int) : SmTown (stepSeconds t n).1 := by
  unfold stepSeconds
  split
  · exact secs_sm h h
  · exact h
abbrev noTown : Town := ⟨[], (⟨[], 0, [], 0⟩ : Control), [], (⟨0, 0⟩ : Prio), [], false, [], 0, 0⟩
theorem secs_loop {F : (((Int × Int) × (Town × (Town × Town))) → Option (Town × Bool)) → ((Int × Int) × (Town × (Town × Town))) → Option (Town × Bool)} {t : Town} {n : Int} (hn : n ≤ 100)
    (h0 : ∀ rec u (i : Nat), SmTown u → ¬ (i : Int) < n → F rec ((n, (i : Int)), (t, (noTown, u))) = some (u, true))
    (h1 : ∀ rec u (i : Nat), SmTown u → (i : Int) < n → F rec ((n, (i : Int)), (t, (noTown, u))) = if (stepSecond u).2 = true then rec ((n, ((i + 1 : Nat) : Int)), (t, (noTown, (stepSecond u).1))) else some (t, false))
    {i : Nat} {u : Town} (hu : SmTown u) : iter F NN ((n, (i : Int)), (t, (noTown, u))) = some (secs t (n.toNat - i) u) := by
  refine iter_ind (R := fun v => some (secs t (n.toNat - v.1.2.toNat) v.2.2.2)) (fun v => n.toNat - v.1.2.toNat) (fun v => ∃ (i : Nat) (u : Town), v = ((n, (i : Int)), (t, (noTown, u))) ∧ SmTown u) ?_ NN _ ⟨i, u, rfl, hu⟩ (NN_big (by omega))
  rintro rec _ ⟨i, u, rfl, hu⟩ hr
  by_cases c : (i : Int) < n
  · rw [h1 rec u i hu c]
    have e : n.toNat - i = n.toNat - (i + 1) + 1 := by omega
    simp only [Int.toNat_natCast]
    rw [e, secs]
    split
    · rw [hr _ ⟨i + 1, _, rfl, stepSecond_sm hu⟩ (by simp only [Int.toNat_natCast]; omega)]
      simp only [Int.toNat_natCast]
    · rfl
  · rw [h0 rec u i hu c]
    simp only [Int.toNat_natCast]
    rw [show n.toNat - i = 0 by omega]
    rfl
theorem sStepSeconds_v (t : Town) (n : Int) (h : SmTown t) : S_sStepSeconds t n = some (stepSeconds t n) := by
  unfold S_sStepSeconds stepSeconds
  simp only [rC_v, rT_ss, rT_so, rT_oo, rT_uu, rws_path, rws_i, rws_want, rws_lamp, rws_note_ss, rws_note_so, rws_note_oo, eta_Control, eta_Town, sl33Copy_v t h, sl1In_r, bnd_some]
  cases hn : inR n 1 100 with
  | false => simp
  | true =>
    have hn' : 1 ≤ n ∧ n ≤ 100 := by simpa [inR] using hn
    simp only [Bool.not_true, cnd_ff, if_true]
    refine (secs_loop (t := t) (n := n) (i := 0) (u := t) hn'.2 ?_ ?_ h).trans (by simp)
    · intro rec u i hu hi
      simp [hi, eta_Control, eta_Town]
    · intro rec u i hu hi
      simp only [rC_v, rT_ss, rT_so, rT_oo, rT_uu, rws_path, rws_i, rws_want, rws_lamp, rws_note_ss, rws_note_so, rws_note_oo, eta_Control, eta_Town, decide_eq_true hi, cnd_tt, sStepSecond_v u hu, bnd_some, sl33Copy_v t h, W_n1 (show i ≤ 9223372036854775806 by omega)]
      cases (stepSecond u).2 <;> simp
def coverStep (l : List Path) (c : List (List Int)) (p : Path) : List (List Int) := if cov c p.id = true then c else c ++ [addToStage l [p.id]]
def cover (l : List Path) : List (List Int) := if arePaths l = true then l.foldl (coverStep l) [] else []
theorem has_putI (a : List Int) (n x : Int) : has (putI a n) x = (has a x || n == x) := by
  unfold putI
  split
  · rename_i h
    have hm : n ∈ a := List.mem_of_getElem? h
    by_cases c : n = x
    · subst c
      have : has a n = true := by unfold has; exact List.any_eq_true.2 ⟨n, hm, by simp⟩
      rw [this]; rfl
    · rw [show (n == x) = false from beq_eq_false_iff_ne.2 c, Bool.or_false]
  · unfold ins has
    have e : a.any (fun y => y == x) = ((a.take (low a n)).any (fun y => y == x) || (a.drop (low a n)).any fun y => y == x) := by
      rw [← List.any_append, List.take_append_drop]
    rw [e]
    simp only [List.any_append, List.any_cons, List.any_nil, Bool.or_false]
    cases (a.take (low a n)).any (fun y => y == x) <;> cases (a.drop (low a n)).any (fun y => y == x) <;> cases (n == x) <;> rfl
theorem putI_len (a : List Int) (n : Int) : (putI a n).length ≤ a.length + 1 := by
  unfold putI
  split
  · omega
  · rw [ins_len]; exact Nat.le_refl _
theorem stage_len (l : List Path) (p : Int) : (addToStage l [p]).length ≤ 20 := by
  unfold addToStage
  split
  · rename_i h; exact together_len (fold_together h)
  · simp
theorem fold_has (s : List Int) : ∀ (a : List Int) (x : Int), has (s.foldl putI a) x = (has a x || has s x) := by
  induction s with
  | nil => intro a x; simp [has]
  | cons y s ih =>
    intro a x
    rw [List.foldl_cons, ih, has_putI]
    unfold has
    rw [List.any_cons]
    cases a.any (fun z => z == x) <;> cases (y == x) <;> simp
theorem fold_len (s : List Int) : ∀ (a : List Int), (s.foldl putI a).length ≤ a.length + s.length := by
  induction s with
  | nil => intro a; simp
  | cons y s ih =>
    intro a
    rw [List.foldl_cons, List.length_cons]
    have := ih (putI a y)
    have := putI_len a y
    omega
theorem are_len {l : List Path} (h : arePaths l = true) : l.length ≤ 12 := by
  unfold arePaths at h
  rw [Bool.and_eq_true] at h
  exact of_decide_eq_true h.1
theorem appe_ilo {o p q : Own} (h0 : okO o p = true) (h1 : okO o q = true) (l : List (List Int)) (a : List Int) {β : Type} (K : List (List Int) → Option β) :
    rws (rOne (rX o 1 iR)) (l.map (rOne (rX p 1 iR)).enc ++ [[.slc q 1 (a.map iR.enc)]]) K = K (l ++ [a]) :=
  (rws_app (rOne (rX o 1 iR)) _ _ K).trans ((rws_il h0 l _).trans (rws_il h1 [a] fun l' => K (l ++ l')))
theorem sCoverOf_v (l : List Path) (h : Sm l) : S_sCoverOf l = some (cover l) := by
  have hl' := h
  unfold Sm at hl'
  unfold S_sCoverOf cover
  simp only [rC_v, rT_ss, rT_so, rT_oo, rT_uu, rws_path, rws_i, rws_il_ss, len_path, len_i, len_il, geti_path, geti_i, sArePaths_v l h, bnd_some]
  refine (iter_listJ l (by omega) (fun k (c : List (List Int) × List Int) => (l, c.1, c.2, (k : Int))) ([], []) (fun k c => (arePaths l = true → c.1.length ≤ k ∧ c.2.length ≤ 20 * k ∧ ∀ x, has c.2 x = cov c.1 x) ∧ (arePaths l = false → c.1 = [])) ⟨fun _ => ⟨Nat.le_refl _, Nat.le_refl _, fun x => rfl⟩, fun _ => rfl⟩ (fun r _ c => some (if arePaths l = true then r.foldl (coverStep l) c.1 else [])) rfl ?_ ?_).trans rfl
  · rintro rec ⟨c, d⟩ hJ
    rw [show decide (((l.length : Nat) : Int) < ((l.length : Nat) : Int)) = false from decide_eq_false (by omega), cnd_ff]
    cases ha : arePaths l with
    | true => rfl
    | false => rw [hJ.2 ha]; rfl
  · rintro rec k p ⟨c, d⟩ hJ hx hk hr
    simp only [Int.natCast_succ] at hr
    simp only [show decide (((k : Nat) : Int) < ((l.length : Nat) : Int)) = true from decide_eq_true (by omega), cnd_tt, sArePaths_v l h, bnd_some, W_n1 (show k ≤ 9223372036854775806 by omega)]
    cases ha : arePaths l with
    | false => simp [show c = [] from hJ.2 ha]
    | true =>
    have hl := are_len ha
    obtain ⟨j1, j2, j3⟩ := hJ.1 ha
    simp only at j1 j2 j3
    have hd : Sm d := by unfold Sm; omega
    simp only [cnd_tt, getZ_at hx, sl6Has_v d _ hd, bnd_some, j3, sAddToStage_v l _ h (sm_one _), if_true, List.foldl_cons]
    simp only [ha, if_true] at hr
    cases hc : cov c p.id with
    | true =>
      have e : coverStep l c p = c := by unfold coverStep; rw [if_pos hc]
      rw [e, cnd_tt]
      exact hr (c, d) ⟨fun _ => ⟨Nat.le_succ_of_le j1, by show d.length ≤ 20 * (k + 1); omega, j3⟩, fun h => by cases h⟩
    | false =>
      have e : coverStep l c p = c ++ [addToStage l [p.id]] := by unfold coverStep; rw [if_neg (by rw [hc]; simp)]
      have hs := stage_len l p.id
      have hr' := hr (c ++ [addToStage l [p.id]], (addToStage l [p.id]).foldl putI d) ⟨fun _ => ⟨by simp; omega, by
        have := fold_len (addToStage l [p.id]) d
        simp only
        omega, fun x => by
        simp only
        rw [fold_has, j3]
        unfold cov
        rw [List.any_append]
        simp⟩, fun h => by cases h⟩
      rw [e, cnd_ff]
      rw [ifA_pos (by simp; omega)]
      simp only [appe_ilo (o := .shr) (p := .shr) (q := .shr) rfl rfl]
      generalize hst : addToStage l [p.id] = st at hs hr' ⊢
      refine (iter_listJ st (by omega) (fun m (a : List Int) => (l, c ++ [st], a, (k : Int), st, (m : Int))) d (fun m a => a.length ≤ 240 + m) (by omega) (fun r _ a => rec (l, c ++ [st], r.foldl putI a, (k : Int) + 1)) rfl ?_ ?_).trans hr'
      · intro rec2 a ha2
        rw [show decide (((st.length : Nat) : Int) < ((st.length : Nat) : Int)) = false from decide_eq_false (by omega), cnd_ff]
        simp [W_n1 (show k ≤ 9223372036854775806 by omega)]
      · intro rec2 m y a ha2 hy hm hr2
        simp only [Int.natCast_succ] at hr2
        have hsa : Sm a := by unfold Sm; omega
        have := putI_len a y
        simp only [show decide (((m : Nat) : Int) < ((st.length : Nat) : Int)) = true from decide_eq_true (by omega), cnd_tt, getZ_at hy, sl6Put_v a y hsa, bnd_some, W_n1 (show m ≤ 9223372036854775806 by omega), List.foldl_cons]
        exact hr2 (putI a y) (by omega)
def town0 (l : List Path) (s : List Int) : Town := ⟨l, ⟨s, 0, [], 0⟩, [], ⟨0, 0⟩, [], true, [], 0, 0⟩
def town1 (l : List Path) (s : List Int) : Town := ⟨l, ⟨s, 0, [], 0⟩, [], ⟨0, 0⟩, [], true, (addEntry [] 0 (lightsOf l ⟨s, 0, [], 0⟩)).1, 0, 0⟩
def newTown (l : List Path) : Town × Bool := match cover l with
  | [] => (noTown, false)
  | s :: _ => if isTown (town1 l s) = true then (town1 l s, true) else (noTown, false)
theorem cover_sm {l : List Path} {s : List Int} {r : List (List Int)} (h : cover l = s :: r) : Sm s := by
  have main : ∀ (t : List Path) (c : List (List Int)), (∀ y ∈ c, Sm y) → ∀ y ∈ t.foldl (coverStep l) c, Sm y := by
    intro t
    induction t with
    | nil => exact fun c hc => hc
    | cons p t ih =>
      intro c hc
      rw [List.foldl_cons]
      refine ih _ ?_
      unfold coverStep
      split
      · exact hc
      · intro y hy
        rcases List.mem_append.1 hy with hy | hy
        · exact hc y hy
        · rw [List.mem_singleton.1 hy]; exact addToStage_sm (sm_one _)
  unfold cover at h
  split at h
  · exact main l [] (fun y hy => by cases hy) s (by rw [h]; exact List.mem_cons_self ..)
  · cases h
theorem town0_sm {l : List Path} {s : List Int} (h : Sm l) (hs : Sm s) : SmTown (town0 l s) := ⟨h, ⟨hs, sm_nil⟩, by unfold Sm; simp [town0], by unfold Sm; simp [town0], smR_nil⟩
theorem lights_sm (l : List Path) (x : Control) (h : Sm l) : Sm (lightsOf l x) := by
  unfold Sm at h
  unfold Sm lightsOf
  split
  · rw [List.length_map]; exact h
  · simp
theorem town1_sm {l : List Path} {s : List Int} (h : Sm l) (hs : Sm s) : SmTown (town1 l s) := by
  obtain ⟨a, b, c, d, _⟩ := town0_sm h hs
  exact ⟨a, b, c, d, addEntry_sm smR_nil (by simp) (lights_sm l _ h)⟩
theorem newTown_sm {l : List Path} (h : Sm l) : SmTown (newTown l).1 := by
  have h0 : SmTown noTown := ⟨sm0, ⟨sm_nil, sm_nil⟩, sm0, sm0, smR_nil⟩
  unfold newTown
  split
  · exact h0
  · rename_i s r hc
    split
    · exact town1_sm h (cover_sm hc)
    · exact h0
where sm0 {α : Type} : Sm ([] : List α) := by unfold Sm; simp
theorem sNewTown_v (l : List Path) (h : Sm l) : S_sNewTown l = some (newTown l) := by
  unfold S_sNewTown newTown
  simp only [rC_v, rT_ss, rT_so, rT_oo, rT_uu, rws_path, rws_i, rws_il_ss, geti_il_ss, len_il, len0, rws_want, rws_lamp, rws_note_ss, rws_note_so, rws_note_oo, eta_Control, eta_Town, sCoverOf_v l h, bnd_some]
  cases hc : cover l with
  | nil => simp
  | cons s r =>
    have hs := cover_sm hc
    have e := sl33Copy_v _ (town0_sm h hs)
    have e1 := sIsTown_v _ (town1_sm h hs)
    unfold town1 at e1
    unfold town0 at e
    simp only [List.isEmpty_cons, cnd_ff, getZ_zero, e, bnd_some, sLightsOf_v l ⟨s, 0, [], 0⟩ h ⟨hs, sm_nil⟩, sAddEntry_v [] 0 _ smR_nil (by simp) (lights_sm l _ h), rws_note_ss, rws_note_so, rws_note_oo]
    rw [e1]
    unfold town1
    generalize isTown _ = b
    cases b <;> simp
theorem frzss_map {σ : Type} {e e' : σ → List AV} (h : ∀ x, frzs (e x) = e' x) : ∀ l : List σ, frzss (l.map e) = l.map e'
  | [] => rfl
  | x :: l => by simp only [List.map_cons, frzss, h, frzss_map h l]
@[simp] theorem frzss_i (l : List Int) : frzss (l.map iR.enc) = l.map iR.enc := frzss_map (fun _ => rfl) l
@[simp] theorem frzss_path (l : List Path) : frzss (l.map pathR.enc) = l.map pathR.enc := frzss_map (fun _ => rfl) l
@[simp] theorem frzss_want (l : List Want) : frzss (l.map wantR.enc) = l.map wantR.enc := frzss_map (fun _ => rfl) l
@[simp] theorem frzss_lamp (l : List Lamp) : frzss (l.map lampR.enc) = l.map lampR.enc := frzss_map (fun _ => rfl) l
@[simp] theorem frzss_note (l : List Note) : frzss (l.map (noteR Own.unq).enc) = l.map (noteR Own.own).enc := frzss_map (fun x => by show frzs [I x.second, .slc Own.unq 1 (x.lights.map iR.enc), I x.sig] = [I x.second, .slc Own.own 1 (x.lights.map iR.enc), I x.sig]; simp [frzs, AV.frz]) l
@[simp] theorem appe_lamp (l : List Lamp) (a b : Int) (c : Bool) {β : Type} (K : List Lamp → Option β) : rws lampR (l.map lampR.enc ++ [[I a, I b, Bl c]]) K = K (l ++ [(⟨a, b, c⟩ : Lamp)]) :=
  (rws_app _ _ _ K).trans (rws_lamp l _)
theorem map_set' {σ τ : Type} (f : σ → τ) (l : List σ) (i : Nat) (x : σ) : (l.map f).set i (f x) = (l.set i x).map f := List.map_set.symm
@[simp] theorem rws_lset (l : List Lamp) (i : Nat) (a b : Int) (c : Bool) {β : Type} (K : List Lamp → Option β) : rws lampR ((l.map lampR.enc).set i [I a, I b, Bl c]) K = K (l.set i ⟨a, b, c⟩) := by
  have : (l.map lampR.enc).set i [I a, I b, Bl c] = (l.set i ⟨a, b, c⟩).map lampR.enc := map_set' lampR.enc l i ⟨a, b, c⟩
  exact (congrArg (fun z => rws lampR z K) this).trans (rws_lamp _ K)
def CurOk (g : L1Cur) : Prop := g.b.length ≤ 1048576 ∧ 0 ≤ g.i ∧ g.i ≤ g.b.length
def Gives {α : Type} (x : Option (α × L1Cur)) (P : α → Prop) : Prop := ∃ a g, x = some (a, g) ∧ P a ∧ CurOk g
theorem and255 (a : BitVec (Go.IntKind.bits Go.IntKind.i64)) : 0 ≤ W (BitVec.toNat (a &&& BitVec.ofInt (Go.IntKind.bits Go.IntKind.i64) 255)) ∧ W (BitVec.toNat (a &&& BitVec.ofInt (Go.IntKind.bits Go.IntKind.i64) 255)) ≤ 255 := by
  have h1 : BitVec.toNat (a &&& BitVec.ofInt (Go.IntKind.bits Go.IntKind.i64) 255) ≤ 255 := by
    rw [BitVec.toNat_and]
    have : BitVec.toNat (BitVec.ofInt (Go.IntKind.bits Go.IntKind.i64) 255) = 255 := by decide
    rw [this]
    exact Nat.and_le_right
  rw [W_id (by omega) (by omega)]
  omega
theorem sl1Byte_g {g : L1Cur} (h : CurOk g) : Gives (S_sl1Byte g) fun x => 0 ≤ x ∧ x ≤ 255 := by
  obtain ⟨h1, h2, h3⟩ := h
  unfold S_sl1Byte
  simp only [rws_y, geti_y, len_y]
  by_cases c : g.i < (g.b.length : Int)
  · rw [show decide (g.i < (g.b.length : Int)) = true by simpa using c, cnd_tt]
    have hlt : g.i.toNat < g.b.length := by omega
    have hx : g.b[g.i.toNat]? = some g.b[g.i.toNat] := List.getElem?_eq_getElem hlt
    have e : g.i = ((g.i.toNat : Nat) : Int) := by omega
    have hz : ∀ {β : Type} (K : Int → Option β), getZ g.b g.i K = K g.b[g.i.toNat] := fun K => by
      conv => lhs; rw [e]
      exact getZ_at hx K
    rw [hz]
    refine ⟨_, _, rfl, and255 _, h1, ?_, ?_⟩
    · show 0 ≤ W (g.i + 1)
      rw [W_id (by omega) (by omega)]; omega
    · show W (g.i + 1) ≤ _
      rw [W_id (by omega) (by omega)]; show g.i + 1 ≤ (g.b.length : Int); omega
  · rw [show decide (g.i < (g.b.length : Int)) = false by simpa using c, cnd_ff]
    exact ⟨_, _, rfl, and255 _, h1, h2, h3⟩
theorem sl1Below_g {g : L1Cur} (h : CurOk g) {n : Int} (h1 : n ≤ 256) : Gives (S_sl1Below n g) fun x => 0 ≤ x ∧ (1 ≤ n → x < n) ∧ (n ≤ 0 → x = 0) := by
  unfold S_sl1Below
  simp only [rws_y, eta_L1Cur]
  by_cases c : n ≤ 0
  · rw [show decide (n ≤ 0) = true by simpa using c, cnd_tt]
    exact ⟨_, _, rfl, ⟨Int.le_refl _, fun h => by omega, fun _ => rfl⟩, h⟩
  · rw [show decide (n ≤ 0) = false by simpa using c, cnd_ff, show decide (n ≤ 256) = true by simpa using h1, cnd_tt]
    obtain ⟨x, g', e, hx, hg⟩ := sl1Byte_g h
    rw [e, bnd_some, ifA_pos (by omega)]
    refine ⟨_, _, rfl, ⟨?_, fun _ => ?_, fun h => by omega⟩, hg⟩
    · exact Int.tmod_nonneg _ hx.1
    · have := Int.tmod_lt_of_pos x (show 0 < n by omega)
      exact this
theorem sl1Once_g {g : L1Cur} (h : CurOk g) {n : Int} (h1 : n ≤ 256) : Gives (S_sl1Once n g) fun _ => True := by
  unfold S_sl1Once
  simp only [rws_y, eta_L1Cur]
  obtain ⟨x, g', e, hx, hg⟩ := sl1Below_g h h1
  rw [e, bnd_some]
  exact ⟨_, _, rfl, trivial, hg⟩
theorem sl1Int_g {g : L1Cur} (h : CurOk g) {l : List Int} (h0 : 1 ≤ l.length) (h1 : l.length ≤ 256) {P : Int → Prop} (hP : ∀ x ∈ l, P x) : Gives (S_sl1Int l g) P := by
  unfold S_sl1Int
  simp only [rws_y, geti_i, len_i, eta_L1Cur]
  obtain ⟨x, g', e, hx, hg⟩ := sl1Below_g h (n := (l.length : Int)) (by omega)
  rw [e, bnd_some]
  have hlt := hx.2.1 (by omega)
  have hlt' : x.toNat < l.length := by omega
  have hz : ∀ {β : Type} (K : Int → Option β), getZ l x K = K l[x.toNat] := fun K => by
    have e : x = ((x.toNat : Nat) : Int) := by omega
    conv => lhs; rw [e]
    exact getZ_at (List.getElem?_eq_getElem hlt') K
  show Gives (getZ l x _) P
  rw [hz]
  exact ⟨_, _, rfl, hP _ (List.getElem_mem hlt'), hg⟩
theorem sl4Draw_g {g : L1Cur} (h : CurOk g) (id : Int) : Gives (S_sl4Draw id g) fun p => p.id = id ∧ isPath { p with id := 1 } = true := by
  unfold S_sl4Draw
  simp only [rws_y, eta_L1Cur]
  obtain ⟨x, g1, e1, hx, hg1⟩ := sl1Below_g h (n := 3) (by omega)
  rw [e1, bnd_some]
  obtain ⟨y, g2, e2, hy, hg2⟩ := sl1Below_g hg1 (n := 4) (by omega)
  rw [e2, bnd_some]
  have hx1 := hx.2.1 (by omega)
  have hy1 := hy.2.1 (by omega)
  rw [W_id (n := 1 + x) (by omega) (by omega)]
  by_cases c : 1 + x = 2
  · rw [show ((1 + x) != 2) = false by simpa using c, cnd_ff]
    refine ⟨_, _, rfl, ⟨rfl, ?_⟩, hg2⟩
    unfold isPath inR
    simp [c]
    omega
  · rw [show ((1 + x) != 2) = true by simpa using c, cnd_tt]
    obtain ⟨z, g3, e3, hz, hg3⟩ := sl1Below_g hg2 (n := 3) (by omega)
    rw [e3, bnd_some]
    have hz1 := hz.2.1 (by omega)
    refine ⟨_, _, rfl, ⟨rfl, ?_⟩, hg3⟩
    rw [W_id (n := y + 1) (by omega) (by omega), W_id (n := y + 1 + z) (by omega) (by omega)]
    unfold isPath inR
    have hm := Int.tmod_nonneg 4 (show 0 ≤ y + 1 + z by omega)
    have hm2 := Int.tmod_lt_of_pos (y + 1 + z) (show (0 : Int) < 4 by omega)
    have hne : y ≠ (y + 1 + z).tmod 4 := by
      rw [Int.tmod_eq_emod_of_nonneg (by omega)]
      omega
    simp only [beq_eq_false_iff_ne.2 hne, beq_eq_false_iff_ne.2 c]
    simp
    omega
theorem iter_ex {V β : Type} {F : (V → Option β) → V → Option β} {Q : β → Prop} (μ : V → Nat) (inv : V → Prop)
    (step : ∀ rec v, inv v → (∀ v', inv v' → μ v' < μ v → ∃ b, rec v' = some b ∧ Q b) → ∃ b, F rec v = some b ∧ Q b) : ∀ n v, inv v → μ v < n → ∃ b, iter F n v = some b ∧ Q b
  | 0, v, _, h => by omega
  | n + 1, v, hi, h => by
    rw [iter_succ]
    exact step _ v hi fun v' hi' hlt => iter_ex μ inv step n v' hi' (by omega)
theorem gives_iff {α : Type} {x : Option (α × L1Cur)} {P : α → Prop} : Gives x P ↔ ∃ b, x = some b ∧ (P b.1 ∧ CurOk b.2) :=
  ⟨fun ⟨a, g, e, h1, h2⟩ => ⟨(a, g), e, h1, h2⟩, fun ⟨b, e, h1, h2⟩ => ⟨b.1, b.2, e, h1, h2⟩⟩
def Drawn (l : List Path) : Prop := l.length ≤ 7 ∧ ∀ (i : Nat) (p : Path), l[i]? = some p → p.id = (i : Int) + 1 ∧ isPath { p with id := 1 } = true
theorem appe_path (l : List Path) (a b c d : Int) {β : Type} (K : List Path → Option β) : rws pathR (l.map pathR.enc ++ [[I a, I b, I c, I d]]) K = K (l ++ [(⟨a, b, c, d⟩ : Path)]) :=
  (rws_app _ _ _ K).trans (rws_path l _)
theorem sl5Draw_g {g : L1Cur} (h : CurOk g) : Gives (S_sl5Draw g) fun l => Drawn l ∧ 2 ≤ l.length := by
  unfold S_sl5Draw
  simp only [rws_y, rws_path, eta_L1Cur]
  rw [gives_iff]
  refine iter_ex (fun v => (8 - v.1.2.2).toNat) (fun v => Drawn v.1.2.1 ∧ v.1.2.2 = (v.1.2.1.length : Int) + 1 ∧ CurOk v.2) ?_ NN _ ⟨⟨by simp, fun i p hp => by simp at hp⟩, by simp, h⟩ (NN_big (by show (8 - (1 : Int)).toNat ≤ _; decide))
  rintro rec ⟨⟨u, l, i⟩, g1⟩ ⟨hl, hi, hg⟩ hrec
  simp only at hl hi hg hrec ⊢
  obtain ⟨x, g2, e2, hx, hg2⟩ := sl1Below_g hg (n := 6) (by omega)
  rw [e2, bnd_some]
  have hx1 := hx.2.1 (by omega)
  simp only
  rw [W_id (n := 2 + x) (by omega) (by omega)]
  by_cases c : i ≤ 2 + x
  · rw [show decide (i ≤ 2 + x) = true by simpa using c, cnd_tt]
    obtain ⟨p, g3, e3, hp, hg3⟩ := sl4Draw_g hg2 i
    rw [e3, bnd_some]
    have hlen := hl.1
    simp only [List.length_cons, List.length_nil, len_path]
    rw [ifA_pos (by omega)]
    obtain ⟨pid, pk, ps, pd⟩ := p
    simp only [appe_path] at hp ⊢
    refine hrec (((), (l ++ [⟨pid, pk, ps, pd⟩], W (i + 1))), g3) ⟨⟨by simp; omega, fun j q hq => ?_⟩, ?_, hg3⟩ ?_
    · rcases Nat.lt_or_ge j l.length with hj | hj
      · rw [List.getElem?_append_left hj] at hq
        exact hl.2 j q hq
      · rw [List.getElem?_append_right hj] at hq
        have : j - l.length = 0 := by
          rcases Nat.eq_zero_or_pos (j - l.length) with h | h
          · exact h
          · rw [List.getElem?_eq_none (by simp; omega)] at hq; cases hq
        rw [this] at hq
        simp at hq
        subst hq
        refine ⟨?_, hp.2⟩
        show pid = _
        rw [hp.1]; omega
    · show W (i + 1) = _
      rw [W_id (by omega) (by omega)]; simp; omega
    · show (8 - W (i + 1)).toNat < (8 - i).toNat
      rw [W_id (by omega) (by omega)]; omega
  · rw [show decide (i ≤ 2 + x) = false by simpa using c, cnd_ff]
    exact ⟨_, rfl, ⟨hl, by show 2 ≤ l.length; omega⟩, hg2⟩
theorem sl19Lamps_g {g : L1Cur} (h : CurOk g) {l : List Path} (hl : l.length ≤ 1000) {rare : Int} (hr : rare ≤ 256) : Gives (S_sl19Lamps l rare g) fun x => x.length ≤ 2 * l.length := by
  unfold S_sl19Lamps
  simp only [rws_y, rws_path, rws_lamp, len_path, len_lamp, geti_path, eta_L1Cur]
  rw [gives_iff]
  refine iter_ex (fun v => ((l.length : Int) - v.1.2.2.2.2).toNat) (fun v => v.1.2.1 = l ∧ v.1.2.2.1 = rare ∧ 0 ≤ v.1.2.2.2.2 ∧ v.1.2.2.2.2 ≤ (l.length : Int) ∧ (v.1.2.2.2.1.length : Int) ≤ 2 * v.1.2.2.2.2 ∧ CurOk v.2) ?_ NN _ ⟨rfl, rfl, Int.le_refl _, by show (0 : Int) ≤ l.length; omega, by simp, h⟩ (NN_big (by show ((l.length : Int) - 0).toNat ≤ _; omega))
  rintro rec ⟨⟨u, l', rare', x, i⟩, g1⟩ ⟨p1, p2, hi0, hi1, hx, hg⟩ hrec
  simp only at p1 p2 hi0 hi1 hx hg hrec ⊢
  subst p1 p2
  by_cases c : i < (l'.length : Int)
  · rw [show decide (i < (l'.length : Int)) = true by simpa using c, cnd_tt]
    refine iter_ex (fun v => (2 - v.1.2.2.2.2.2).toNat) (fun v => v.1.2.1 = l' ∧ v.1.2.2.1 = rare' ∧ v.1.2.2.2.2.1 = i ∧ 0 ≤ v.1.2.2.2.2.2 ∧ v.1.2.2.2.2.2 ≤ 2 ∧ (v.1.2.2.2.1.length : Int) ≤ 2 * i + v.1.2.2.2.2.2 ∧ CurOk v.2) ?_ NN _ ⟨rfl, rfl, rfl, Int.le_refl _, by show (0 : Int) ≤ 2; decide, by show (x.length : Int) ≤ 2 * i + 0; omega, hg⟩ (NN_big (by show (2 - (0 : Int)).toNat ≤ _; decide))
    rintro rec2 ⟨⟨u2, l2, rare2, x2, i2, k⟩, g2⟩ ⟨q1, q2, q3, hk0, hk1, hx2, hg2⟩ hrec2
    simp only at q1 q2 q3 hk0 hk1 hx2 hg2 hrec2 ⊢
    subst q1 q2 q3
    by_cases ck : k < 2
    · rw [show decide (k < 2) = true by simpa using ck, cnd_tt]
      obtain ⟨b, g3, e3, _, hg3⟩ := sl1Once_g hg2 (n := 5) (by omega)
      rw [e3, bnd_some]
      cases b with
      | true =>
        simp only [Bool.not_true, cnd_ff]
        refine hrec2 _ ⟨rfl, rfl, rfl, ?_, ?_, ?_, hg3⟩ ?_
        · show 0 ≤ W (k + 1)
          rw [W_id (by omega) (by omega)]; omega
        · show W (k + 1) ≤ 2
          rw [W_id (by omega) (by omega)]; omega
        · show (x2.length : Int) ≤ 2 * i2 + W (k + 1)
          rw [W_id (by omega) (by omega)]; omega
        · show (2 - W (k + 1)).toNat < (2 - k).toNat
          rw [W_id (by omega) (by omega)]; omega
      | false =>
        simp only [Bool.not_false, cnd_tt]
        have hlt : i2.toNat < l2.length := by omega
        have hz : ∀ {β : Type} (K : Path → Option β), getZ l2 i2 K = K l2[i2.toNat] := fun K => by
          have e : i2 = ((i2.toNat : Nat) : Int) := by omega
          conv => lhs; rw [e]
          exact getZ_at (List.getElem?_eq_getElem hlt) K
        rw [hz]
        obtain ⟨b, g4, e4, _, hg4⟩ := sl1Once_g hg3 hr
        rw [e4, bnd_some]
        simp only [List.length_cons, List.length_nil]
        rw [ifA_pos (by omega), appe_lamp]
        refine hrec2 ((u2, (l2, rare2, x2 ++ [⟨l2[i2.toNat].id, k, b⟩], i2, W (k + 1))), g4) ⟨rfl, rfl, rfl, ?_, ?_, ?_, hg4⟩ ?_
        · show 0 ≤ W (k + 1)
          rw [W_id (by omega) (by omega)]; omega
        · show W (k + 1) ≤ 2
          rw [W_id (by omega) (by omega)]; omega
        · show ((x2 ++ [_]).length : Int) ≤ 2 * i2 + W (k + 1)
          rw [W_id (by omega) (by omega), List.length_append]; simp; omega
        · show (2 - W (k + 1)).toNat < (2 - k).toNat
          rw [W_id (by omega) (by omega)]; omega
    · rw [show decide (k < 2) = false by simpa using ck, cnd_ff]
      refine hrec _ ⟨rfl, rfl, ?_, ?_, ?_, hg2⟩ ?_
      · show 0 ≤ W (i2 + 1)
        rw [W_id (by omega) (by omega)]; omega
      · show W (i2 + 1) ≤ _
        rw [W_id (by omega) (by omega)]; omega
      · show (x2.length : Int) ≤ 2 * W (i2 + 1)
        rw [W_id (by omega) (by omega)]; omega
      · show ((l2.length : Int) - W (i2 + 1)).toNat < ((l2.length : Int) - i2).toNat
        rw [W_id (by omega) (by omega)]; omega
  · rw [show decide (i < (l'.length : Int)) = false by simpa using c, cnd_ff]
    exact ⟨_, rfl, by show x.length ≤ _; omega, hg⟩
theorem sl1New_g (code : List Int) (h : code.length ≤ 1048576) : ∃ g, S_sl1New code = some ((), g) ∧ CurOk g := by
  unfold S_sl1New
  simp only [rws_y, len_y, geti_y]
  refine (fun ⟨⟨u, g⟩, e, hg⟩ => ⟨g, e, hg⟩ : (∃ b : Unit × L1Cur, _ = some b ∧ CurOk b.2) → _) ?_
  refine iter_ex (Q := fun b : Unit × L1Cur => CurOk b.2) (fun v : List Int × Int × Int => ((code.length : Int) - v.2.2).toNat) (fun v => v.1 = code ∧ 0 ≤ v.2.2 ∧ v.2.2 ≤ (code.length : Int)) ?_ NN _ ⟨rfl, Int.le_refl _, by show (0 : Int) ≤ code.length; omega⟩ (NN_big (by show ((code.length : Int) - 0).toNat ≤ _; omega))
  · rintro rec ⟨c, hh, i⟩ ⟨p1, hi0, hi1⟩ hrec
    simp only at p1 hi0 hi1 hrec ⊢
    subst p1
    by_cases c1 : i < (c.length : Int)
    · rw [show decide (i < (c.length : Int)) = true by simpa using c1, cnd_tt]
      by_cases c2 : i < 4000
      · rw [show decide (i < 4000) = true by simpa using c2, cnd_tt]
        have hlt : i.toNat < c.length := by omega
        have hz : ∀ {β : Type} (K : Int → Option β), getZ c i K = K c[i.toNat] := fun K => by
          have e : i = ((i.toNat : Nat) : Int) := by omega
          conv => lhs; rw [e]
          exact getZ_at (List.getElem?_eq_getElem hlt) K
        rw [hz]
        refine hrec (_, _, _) ⟨rfl, ?_, ?_⟩ ?_
        · show 0 ≤ W (i + 1)
          rw [W_id (by omega) (by omega)]; omega
        · show W (i + 1) ≤ _
          rw [W_id (by omega) (by omega)]; omega
        · show ((c.length : Int) - W (i + 1)).toNat < ((c.length : Int) - i).toNat
          rw [W_id (by omega) (by omega)]; omega
      · rw [show decide (i < 4000) = false by simpa using c2, cnd_ff]
        exact ⟨_, rfl, h, Int.le_refl _, by simp⟩
    · rw [show decide (i < (c.length : Int)) = false by simpa using c1, cnd_ff]
      exact ⟨_, rfl, h, Int.le_refl _, by simp⟩
theorem drawn_sm {l : List Path} (h : Drawn l) : Sm l := by have := h.1; unfold Sm; omega
theorem newTown_paths (l : List Path) : (newTown l).1.paths.length ≤ l.length := by
  unfold newTown
  split
  · simp
  · split
    · exact Nat.le_refl _
    · simp
theorem sl33Draw_g {g : L1Cur} (h : CurOk g) : Gives (S_sl33Draw g) SmTown := by
  unfold S_sl33Draw
  simp only [rC_v, rT_ss, rT_so, rT_oo, rT_uu, rws_y, rws_path, rws_want, rws_lamp, rws_note_oo, eta_L1Cur]
  obtain ⟨l, g1, e1, hl, hg1⟩ := sl5Draw_g h
  rw [e1, bnd_some]
  have hs := drawn_sm hl.1
  simp only [sNewTown_v l hs, bnd_some]
  have hp := newTown_paths l
  have hl7 := hl.1.1
  obtain ⟨x, g2, e2, hx, hg2⟩ := sl19Lamps_g hg1 (l := (newTown l).1.paths) (by omega) (rare := 40) (by omega)
  rw [e2, bnd_some]
  obtain ⟨h0, h1, h2, h3, h4⟩ := newTown_sm hs
  exact ⟨_, _, rfl, ⟨h0, h1, h2, by show x.length ≤ _; omega, h4⟩, hg2⟩
theorem sl34Draw_g {g : L1Cur} (h : CurOk g) : Gives (S_sl34Draw g) SmTown := by
  unfold S_sl34Draw
  simp only [rC_v, rT_ss, rT_so, rT_oo, rT_uu, rws_y, eta_L1Cur]
  obtain ⟨t, g1, e1, ht, hg1⟩ := sl33Draw_g h
  rw [e1, bnd_some]
  obtain ⟨n, g2, e2, hn, hg2⟩ := sl1Below_g hg1 (n := 7) (by omega)
  rw [e2, bnd_some]
  have hn1 := hn.2.1 (by omega)
  rw [gives_iff]
  refine iter_ex (fun v => v.1.2.toNat) (fun v => v.1.2 ≤ 7 ∧ 0 ≤ v.1.2 ∧ SmTown v.2.1.2 ∧ CurOk v.2.2) ?_ NN _ ⟨by show n ≤ 7; omega, hn.1, ht, hg2⟩ (NN_big (by show n.toNat ≤ _; omega))
  rintro rec ⟨⟨u, i⟩, ⟨d, t⟩, g⟩ ⟨hi1, hi0, ht, hg⟩ hrec
  simp only at hi1 hi0 ht hg hrec ⊢
  by_cases c : i > 0
  · rw [show decide (i > 0) = true by simpa using c, cnd_tt]
    have fin : ∀ (t' : Town) (g' : L1Cur), SmTown t' → CurOk g' → ∃ b : Town × L1Cur, rec ((u, W (i - 1)), (d, t'), g') = some b ∧ SmTown b.1 ∧ CurOk b.2 := fun t' g' h1 h2 => by
      refine hrec _ ⟨?_, ?_, h1, h2⟩ ?_
      · show W (i - 1) ≤ 7
        rw [W_id (by omega) (by omega)]; omega
      · show 0 ≤ W (i - 1)
        rw [W_id (by omega) (by omega)]; omega
      · show (W (i - 1)).toNat < i.toNat
        rw [W_id (by omega) (by omega)]; omega
    obtain ⟨k, g3, e3, hk, hg3⟩ := sl1Below_g hg (n := 6) (by omega)
    rw [e3, bnd_some]
    obtain ⟨p, g4, e4, hp, hg4⟩ := sl1Below_g hg3 (n := 7) (by omega)
    obtain ⟨q, g5, e5, hq, hg5⟩ := sl1Below_g hg3 (n := 9) (by omega)
    simp only [e4, e5, bnd_some, sStepCall_v t _ ht, sStepBus_v t _ ht, sStepHelp_v t _ ht, sStepSeconds_v t _ ht, cnd_if]
    split
    · exact fin _ _ (stepCall_sm ht _) hg4
    split
    · exact fin _ _ (stepCall_sm ht _) hg4
    split
    · exact fin _ _ (stepBus_sm ht _) hg4
    split
    · exact fin _ _ (stepHelp_sm ht _) hg4
    · exact fin _ _ (stepSeconds_sm ht _) hg5
  · rw [show decide (i > 0) = false by simpa using c, cnd_ff]
    exact ⟨_, rfl, ht, hg⟩
theorem goS_pair {z : List (Path × Int)} : ∀ (r : List (Path × Int)) (k : Nat), goS z k r = true → ∀ (j : Nat) (y : Path × Int), r[j]? = some y → inR y.2 0 2 = true ∧ (z.take (k + j)).all (clear2 y) = true
  | [], k, _, j, y, h => by simp at h
  | q :: r, k, hg, j, y, h => by
    simp only [goS, Bool.and_eq_true] at hg
    cases j with
    | zero => simp at h; subst h; exact hg.1
    | succ j =>
      have := goS_pair r (k + 1) hg.2 j y (by simpa using h)
      rwa [show k + 1 + j = k + (j + 1) by omega] at this
theorem goU_safe {p : List Path} : ∀ {l : List Note}, (∀ x ∈ l, 0 ≤ x.second) → goU p l = -1 → ∀ x ∈ l, isSafe p x.lights = true
  | [], _, _, x, hx => by cases hx
  | y :: l, h0, h, x, hx => by
    rw [goU] at h
    split at h
    · rename_i hy
      rcases List.mem_cons.1 hx with rfl | hx
      · exact hy
      · exact goU_safe (fun z hz => h0 z (List.mem_cons_of_mem _ hz)) h x hx
    · have := h0 y (List.mem_cons_self ..)
      omega
theorem town_safe {t : Town} (h : isTown t = true) {e : Note} (he : e ∈ t.record) : isSafe t.paths e.lights = true := by
  have h' := h
  simp only [isTown, Bool.and_eq_true, decide_eq_true_eq] at h'
  obtain ⟨⟨⟨⟨⟨⟨⟨⟨⟨⟨h1, h2⟩, h3⟩, h4⟩, h5⟩, h6⟩, h7⟩, h8⟩, h9⟩, h10⟩, h11⟩ := h'
  unfold firstUnsafe at h7
  rw [if_pos h5] at h7
  exact goU_safe (fun x hx => (isRecord_len h5 x hx).2.1) h7 e he
theorem goAt_sec {s : Int} : ∀ (l : List Note) (k : Nat) (a : Int) (i : Nat) (x : Note), goAt s l k a = ((k + i : Nat) : Int) → l[i]? = some x → a < k → x.second ≤ s
  | [], k, a, i, x, h, hx, _ => by simp at hx
  | y :: r, k, a, i, x, h, hx, ha => by
    rw [goAt] at h
    cases i with
    | zero =>
      simp at hx
      subst hx
      by_cases c : y.second ≤ s
      · exact c
      · rw [if_neg c] at h
        rcases goAt_lt (s := s) r (k + 1) a with h2 | ⟨j, _, h2⟩
        · rw [h2] at h; omega
        · rw [h2] at h; omega
    | succ i =>
      refine goAt_sec r (k + 1) _ i x (by rw [h]; congr 1; omega) (by simpa using hx) ?_
      split <;> omega
theorem report_of {t : Town} {p s : Int} (h : (report t p s).2 = true) : isTown t = true ∧ (∃ (m : Nat) (q : Path), findPath t.paths p = (m : Int) ∧ t.paths[m]? = some q ∧ pathAt t.paths p = q ∧ ∃ (i : Nat) (e : Note) (x : Int), e ∈ t.record ∧ t.record[i]? = some e ∧ entry t.record s = some e ∧ entryAt t.record s = (i : Int) ∧ e.second ≤ s ∧ e.lights[m]? = some x ∧ 0 ≤ x ∧ x ≤ 2 ∧ s ≤ t.now ∧
    (report t p s).1 = ⟨p, s, x, greenSince t.record m s, goO q (t.paths.zip e.lights) 0⟩) := by
  unfold report at h ⊢
  split at h
  · cases h
  · rename_i hc
    have hn : ¬ isTown t = false ∧ ¬ findPath t.paths p < 0 ∧ ¬ t.now < s := ⟨fun e => hc (.inl e), fun e => hc (.inr (.inl e)), fun e => hc (.inr (.inr e))⟩
    have ht : isTown t = true := by simpa using hn.1
    refine ⟨ht, ?_⟩
    rw [if_neg hc]
    rcases entry_cases t.record s with ⟨e1, _⟩ | ⟨i, e, e1, e2, e3, e4⟩
    · rw [e1] at h; cases h
    · obtain ⟨m, q, q1, q2, _⟩ := findPath_lt hn.2.1
      have hq : pathAt t.paths p = q := by unfold pathAt; rw [q2, Int.toNat_natCast, q1]; rfl
      have he := mem_at e1
      have hs := town_safe ht he
      have hlen := (town_len ht he).1
      have hm : m < t.paths.length := (List.getElem?_eq_some_iff.1 q1).1
      have hx : e.lights[m]? = some e.lights[m] := List.getElem?_eq_getElem (by omega)
      have hz : (t.paths.zip e.lights)[m]? = some (q, e.lights[m]) := by rw [List.getElem?_zip_eq_some]; exact ⟨q1, hx⟩
      have hs2 := hs
      unfold isSafe at hs2
      simp only [Bool.and_eq_true, decide_eq_true_eq] at hs2
      have hr := (goS_pair _ 0 hs2.2 m _ hz).1
      unfold inR at hr
      simp only [Bool.and_eq_true, decide_eq_true_eq] at hr
      have hsec : e.second ≤ s := by
        unfold entryAt at e2
        rw [if_pos e4] at e2
        exact goAt_sec t.record 0 (-1) i e (by rw [e2, Nat.zero_add]) e1 (by omega)
      refine ⟨m, q, q2, q1, hq, i, e, e.lights[m], he, e1, e3, e2, hsec, hx, hr.1, hr.2, by omega, ?_⟩
      rw [e3]
      simp only
      rw [q2, hq]
      have : lightOf e (m : Int) = e.lights[m] := by
        unfold lightOf
        rw [if_pos (by omega), Int.toNat_natCast, hx]
      rw [this]
theorem lbig_v (c : List Int) : S_lbig c = some (decide ((c.length : Int) > 1048576)) := by
  unfold S_lbig
  simp only [len_y]
theorem sl5Draw_u_g {g : L1Cur} (h : CurOk g) : Gives (S_sl5Draw_u g) fun l => Drawn l ∧ 2 ≤ l.length := by
  have e : S_sl5Draw_u g = S_sl5Draw g := rfl
  rw [e]; exact sl5Draw_g h
theorem beq_ba (a b : ByteArray) : (ByteArray.toList a == ByteArray.toList b) = decide (a = b) := by
  rw [ByteArray.toList_eq, ByteArray.toList_eq]
  by_cases h : a = b
  · subst h; simp
  · have : a.data ≠ b.data := fun e => h (by cases a; cases b; simp only at e; subst e; rfl)
    simp [h, this]
theorem sl4Raw_g {g : L1Cur} (h : CurOk g) : Gives (S_sl4Raw g) fun _ => True := by
  unfold S_sl4Raw
  simp only [rws_y, eta_L1Cur]
  obtain ⟨k, g1, e1, _, hg1⟩ := sl1Int_g h (l := [Neg.neg 1, 0, 4, 7, 20, 21, 9223372036854775807, Neg.neg 9223372036854775808]) (by simp) (by simp) (P := fun _ => True) (fun _ _ => trivial)
  rw [e1, bnd_some]
  exact ⟨_, _, rfl, trivial, hg1⟩
theorem sl4Any_g {g : L1Cur} (h : CurOk g) : Gives (S_sl4Any g) fun _ => True := by
  unfold S_sl4Any
  simp only [rws_y, eta_L1Cur]
  obtain ⟨k, g1, e1, _, hg1⟩ := sl1Below_g h (n := 20) (by omega)
  rw [e1, bnd_some]
  obtain ⟨p, g2, e2, _, hg2⟩ := sl4Draw_g hg1 (W (1 + k))
  rw [e2, bnd_some]
  obtain ⟨m, g3, e3, _, hg3⟩ := sl1Below_g hg2 (n := 10) (by omega)
  rw [e3, bnd_some]
  obtain ⟨a, g4, e4, _, hg4⟩ := sl1Int_g hg3 (l := [0, 20, 21]) (by simp) (by simp) (P := fun _ => True) (fun _ _ => trivial)
  obtain ⟨b, g5, e5, _, hg5⟩ := sl1Int_g hg3 (l := [0, 2, 4]) (by simp) (by simp) (P := fun _ => True) (fun _ _ => trivial)
  obtain ⟨c, g6, e6, _, hg6⟩ := sl4Raw_g hg3
  simp only [e4, e5, e6, bnd_some, cnd_if]
  split
  · exact ⟨_, _, rfl, trivial, hg4⟩
  split
  · exact ⟨_, _, rfl, trivial, hg5⟩
  split
  · exact ⟨_, _, rfl, trivial, hg6⟩
  split
  · exact ⟨_, _, rfl, trivial, hg6⟩
  · exact ⟨_, _, rfl, trivial, hg3⟩
theorem sl5Any_g {g : L1Cur} (h : CurOk g) : Gives (S_sl5Any g) fun l => l.length ≤ 7 := by
  unfold S_sl5Any
  simp only [rws_y, rws_path, eta_L1Cur, len_path, set_path]
  obtain ⟨l, g1, e1, ⟨hl, h2⟩, hg1⟩ := sl5Draw_u_g h
  rw [e1, bnd_some]
  have h7 : l.length ≤ 7 := hl.1
  have h2 : 2 ≤ l.length := h2
  dsimp only
  obtain ⟨b, g2, e2, _, hg2⟩ := sl1Once_g hg1 (n := 6) (by omega)
  rw [e2, bnd_some]
  cases b with
  | false => rw [cnd_ff]; exact ⟨_, _, rfl, h7, hg2⟩
  | true =>
    rw [cnd_tt]
    obtain ⟨k, g3, e3, hk, hg3⟩ := sl1Below_g hg2 (n := (l.length : Int)) (by omega)
    rw [e3, bnd_some]
    obtain ⟨p, g4, e4, _, hg4⟩ := sl4Any_g hg3
    rw [e4, bnd_some]
    have hk1 := hk.2.1 (by omega)
    have hk0 := hk.1
    rw [ifA_pos (by omega)]
    have hlt : k.toNat < l.length := by omega
    simp only [getn_path]
    rw [getN_at (List.getElem?_eq_getElem hlt)]
    exact ⟨_, _, rfl, by simp; exact h7, hg4⟩
theorem find_own' {l : List Path} {x : Path} (hx : x ∈ l) : ¬ findPath l x.id < 0 := by
  unfold findPath
  split
  · omega
  · rename_i hn
    have := List.findIdx?_eq_none_iff.1 hn x hx
    simp at this
def bs (l : List UInt8) : ByteArray := ⟨l.toArray⟩
theorem bs_eq (l : List UInt8) : ByteArray.mk l.toArray = bs l := rfl
theorem bs_size (l : List UInt8) : (bs l).size = l.length := rfl
def dash : ByteArray := bs [45]
def jn (a b : ByteArray) (r : List ByteArray) : ByteArray := r.foldl (fun a x => a ++ b ++ x) a
def joined (l : List ByteArray) (b : ByteArray) : ByteArray := match l with | [] => dash | x :: r => jn x b r
def tot (l : List ByteArray) (b : ByteArray) : Nat := (l.map (fun x => x.size + b.size)).sum
theorem tot_cons (x : ByteArray) (l : List ByteArray) (b : ByteArray) : tot (x :: l) b = x.size + b.size + tot l b := by simp [tot]
theorem jn_data (b : ByteArray) : ∀ (r : List ByteArray) (a : ByteArray), (jn a b r).data.toList = a.data.toList ++ Lib.joinTail b.data.toList (r.map (·.data.toList))
  | [], a => by simp [jn, Lib.joinTail]
  | x :: r, a => by
    show (jn (a ++ b ++ x) b r).data.toList = _
    rw [jn_data b r]
    simp [Lib.joinTail]
theorem joinB_cons (x : ByteArray) (r : List ByteArray) (b : ByteArray) : joinB (x :: r) b = jn x b r := by
  have h : (joinB (x :: r) b).data.toList = (jn x b r).data.toList := by
    rw [jn_data]
    show (Lib.join _ _).toArray.toList = _
    rw [List.map_cons, Lib.join_cons]
  have h2 : (joinB (x :: r) b).data = (jn x b r).data := Array.toList_inj.1 h
  exact ByteArray.ext h2
theorem jn_size (b : ByteArray) : ∀ (r : List ByteArray) (a : ByteArray), (jn a b r).size = a.size + tot r b
  | [], a => by simp [jn, tot]
  | x :: r, a => by
    show (jn (a ++ b ++ x) b r).size = _
    rw [jn_size b r, tot_cons, ByteArray.size_append, ByteArray.size_append]
    omega
theorem join_len (x : ByteArray) (r : List ByteArray) (b : ByteArray) : (Lib.join ((x :: r).map (·.data.toList)) b.data.toList).length = x.size + tot r b := by
  have h := jn_size b r x
  rw [← joinB_cons] at h
  exact h
theorem ijoined_v (l : List ByteArray) (b : ByteArray) (h : l.length ≤ 1099511627776) (ht : tot l b ≤ 1099511627776) : S_ijoined l b = some (joined l b) := by
  unfold S_ijoined
  cases l with
  | nil => rfl
  | cons x r =>
    have hj : S_strings_Join (x :: r) b = some (jn x b r) := by
      unfold S_strings_Join
      rw [tot_cons] at ht
      rw [ifA_pos ⟨by omega, by rw [join_len]; omega⟩, joinB_cons]
    simp [hj]
    rw [show (((r.length : Int) + 1) == 0) = false by simp; omega]
    rfl
@[simp] theorem rws_app_s {β : Type} (l : List ByteArray) (s : ByteArray) (K : List ByteArray → Option β) : rws sR (l.map sR.enc ++ [[Sg s]]) K = K (l ++ [s]) :=
  (congrArg (fun z => rws sR z K) (List.map_append (f := sR.enc) (l₁ := l) (l₂ := [s])).symm).trans (rws_enc sR (l ++ [s]) K)
@[simp] theorem rws_app_i {β : Type} (l : List Int) (s : Int) (K : List Int → Option β) : rws iR (l.map iR.enc ++ [[I s]]) K = K (l ++ [s]) :=
  (congrArg (fun z => rws iR z K) (List.map_append (f := iR.enc) (l₁ := l) (l₂ := [s])).symm).trans (rws_enc iR (l ++ [s]) K)
theorem grow_loop {α V β : Type} (l : List α) (f : α → ByteArray) (hl : l.length ≤ 1099511627776) (st : Nat → List ByteArray → V) (K : List ByteArray → Option β) {F : (V → Option β) → V → Option β} {v : V} (hv : v = st 0 [])
    (h0 : ∀ rec acc, acc.length = l.length → F rec (st l.length acc) = K acc)
    (h1 : ∀ rec k x acc, l[k]? = some x → k < l.length → acc.length = k → F rec (st k acc) = rec (st (k + 1) (acc ++ [f x]))) : iter F NN v = K (l.map f) := by
  refine (iter_listJ l (by omega) st [] (fun k acc => acc.length = k) rfl (fun s _ acc => K (acc ++ s.map f)) hv ?_ ?_).trans (by simp)
  · intro rec acc h
    rw [h0 rec acc h]
    simp
  · intro rec k x acc h hx hk hr
    rw [h1 rec k x acc hx hk h, hr _ (by simp [h])]
    simp
def lightCh (v : Int) : ByteArray := if v = 0 then bs [114] else if v = 1 then bs [103] else if v = 2 then bs [99] else bs [46]
theorem lightCh_size (v : Int) : (lightCh v).size = 1 := by
  unfold lightCh
  split <;> (try split) <;> (try split) <;> rfl
theorem tot_const {α : Type} (l : List α) (f : α → ByteArray) (b : ByteArray) (n : Nat) (h : ∀ x ∈ l, (f x).size ≤ n) : tot (l.map f) b ≤ l.length * (n + b.size) := by
  induction l with
  | nil => simp [tot]
  | cons x l ih =>
    rw [List.map_cons, tot_cons, List.length_cons, Nat.succ_mul]
    have := ih fun y hy => h y (List.mem_cons_of_mem _ hy)
    have := h x (List.mem_cons_self ..)
    omega
def formatLights (l : List Int) : ByteArray := joined (l.map lightCh) (bs [])
theorem iFormatLights_v (l : List Int) (h : Sm l) : S_iFormatLights l = some (formatLights l) := by
  unfold Sm at h
  unfold S_iFormatLights formatLights
  simp
  refine (grow_loop l lightCh (by omega) (fun k acc => (acc, l, (l.length : Int), (k : Int))) (fun a => S_ijoined a (bs [])) rfl ?_ ?_).trans ?_
  · intro rec acc ha
    simp
    rfl
  · intro rec k x acc hx hk ha
    simp [hk, getZ_at hx, W_n1 (show k ≤ 9223372036854775806 by omega), ha, show (k + 1) * 16 ≤ 140737488355328 by omega, show k ≤ 1152921504606846975 by omega]
    by_cases e0 : x = 0
    · simp [e0, lightCh, bs]
    by_cases e1 : x = 1
    · simp [e1, lightCh, bs]
    by_cases e2 : x = 2
    · simp [e2, lightCh, bs]
    simp [e0, e1, e2, lightCh, cnd_if, bs]
  · refine ijoined_v _ _ (by simp; omega) ?_
    have := tot_const l lightCh (bs []) 1 fun x _ => Nat.le_of_eq (lightCh_size x)
    simp [bs_size] at this
    omega
theorem rg_of {n : Int} (h : Rg n) : -9223372036854775808 ≤ n ∧ n ≤ 9223372036854775807 := h
theorem iFormatInt_v (n : Int) (h : Rg n) : S_iFormatInt n = some (itoaB n) := by
  unfold S_iFormatInt S_strconv_Itoa
  rw [ifA_pos (rg_of h)]
  rfl
theorem itoaB_size {n : Int} (h : Rg n) : (itoaB n).size ≤ 21 := Lib.itoa_length_le n h.1 h.2
def formatNumbers (l : List Int) : ByteArray := joined (l.map itoaB) (bs [32])
theorem iFormatNumbers_v (l : List Int) (h : Sm l) (hr : ∀ y ∈ l, Rg y) : S_iFormatNumbers l = some (formatNumbers l) := by
  unfold Sm at h
  unfold S_iFormatNumbers formatNumbers
  simp
  refine (grow_loop l itoaB (by omega) (fun k acc => (acc, l, (l.length : Int), (k : Int))) (fun a => S_ijoined a (bs [32])) rfl ?_ ?_).trans ?_
  · intro rec acc ha
    simp
    rfl
  · intro rec k x acc hx hk ha
    simp [hk, getZ_at hx, iFormatInt_v x (hr x (mem_at hx)), W_n1 (show k ≤ 9223372036854775806 by omega), ha, show (k + 1) * 16 ≤ 140737488355328 by omega, show k ≤ 1152921504606846975 by omega]
  · refine ijoined_v _ _ (by simp; omega) ?_
    have := tot_const l itoaB (bs [32]) 21 fun x hx => itoaB_size (hr x hx)
    simp [bs_size] at this
    omega
theorem joined_size (l : List ByteArray) (b : ByteArray) : (joined l b).size ≤ tot l b + 1 := by
  cases l with
  | nil => exact Nat.le_of_eq rfl
  | cons x r =>
    show (jn x b r).size ≤ _
    rw [jn_size, tot_cons]; omega
theorem formatNumbers_size {l : List Int} (h : Sm l) (hr : ∀ y ∈ l, Rg y) : (formatNumbers l).size ≤ 23068673 := by
  have h1 := joined_size (l.map itoaB) (bs [32])
  have h2 := tot_const l itoaB (bs [32]) 21 fun x hx => itoaB_size (hr x hx)
  unfold Sm at h
  simp [bs_size] at h2
  unfold formatNumbers
  omega
theorem formatLights_size {l : List Int} (h : Sm l) : (formatLights l).size ≤ 1048577 := by
  have h1 := joined_size (l.map lightCh) (bs [])
  have h2 := tot_const l lightCh (bs []) 1 fun x _ => Nat.le_of_eq (lightCh_size x)
  unfold Sm at h
  simp [bs_size] at h2
  unfold formatLights
  omega
def kindCh (k : Int) : ByteArray := if k = 1 then bs [99] else if k = 2 then bs [119] else bs [98]
def pathText (p : Path) : ByteArray := if isPath p then itoaB p.id ++ kindCh p.kind ++ itoaB p.src ++ itoaB p.dst else bs []
theorem kindCh_size (k : Int) : (kindCh k).size = 1 := by
  unfold kindCh
  split <;> (try split) <;> rfl
theorem pathText_size {p : Path} (h : OkPath p) : (pathText p).size ≤ 64 := by
  obtain ⟨k0, k1, k2, k3⟩ := h
  have z0 := itoaB_size k0
  have z1 := itoaB_size k2
  have z2 := itoaB_size k3
  have z3 := kindCh_size p.kind
  unfold pathText
  split
  · simp only [ByteArray.size_append]; omega
  · exact Nat.zero_le _
theorem iPathText_v (p : Path) (h : OkPath p) : S_iPathText p = some (pathText p) := by
  obtain ⟨k0, k1, k2, k3⟩ := h
  have z0 := itoaB_size k0
  have z1 := itoaB_size k2
  have z2 := itoaB_size k3
  have z3 := kindCh_size p.kind
  unfold S_iPathText pathText
  rw [iIsPath_v, bnd_some]
  cases hp : isPath p with
  | false => rfl
  | true =>
    have e : ByteArray.extract (ByteArray.mk (List.toArray [99, 119, 98])) (Int.toNat (W (p.kind - 1))) (Int.toNat p.kind) = kindCh p.kind := by
      rcases kind_of hp with e | e | e <;> rw [e] <;> rfl
    have hk : W (p.kind - 1) = p.kind - 1 := by
      have := kind_of hp
      exact W_id (by omega) (by omega)
    simp only [Bool.not_true, cnd_ff, e, iFormatInt_v _ k0, iFormatInt_v _ k2, iFormatInt_v _ k3, bnd_some, ByteArray.size_append, if_true]
    have := kind_of hp
    rw [hk, ifA_pos ⟨by omega, by omega, by show p.kind ≤ 3; omega⟩, ifA_pos (by omega), ifA_pos (by omega), ifA_pos (by omega)]
def formatPaths (l : List Path) : ByteArray := joined (l.map pathText) (bs [32])
theorem iFormatPaths_v (l : List Path) (h : Sm l) (hr : ∀ y ∈ l, OkPath y) : S_iFormatPaths l = some (formatPaths l) := by
  unfold Sm at h
  unfold S_iFormatPaths formatPaths
  simp
  refine (grow_loop l pathText (by omega) (fun k acc => (acc, l, (l.length : Int), (k : Int))) (fun a => S_ijoined a (bs [32])) rfl ?_ ?_).trans ?_
  · intro rec acc ha
    simp
    rfl
  · intro rec k x acc hx hk ha
    simp [hk, getZ_at hx, iPathText_v x (hr x (mem_at hx)), W_n1 (show k ≤ 9223372036854775806 by omega), ha, show (k + 1) * 16 ≤ 140737488355328 by omega, show k ≤ 1152921504606846975 by omega]
  · refine ijoined_v _ _ (by simp; omega) ?_
    have := tot_const l pathText (bs [32]) 64 fun x hx => pathText_size (hr x hx)
    simp [bs_size] at this
    omega
def lensP (a : List Part) : Nat := (a.map fun x => x.stage.length).sum
theorem lensP_cons (x : Part) (a : List Part) : lensP (x :: a) = x.stage.length + lensP a := by simp [lensP]
def partText (x : Part) : ByteArray := formatNumbers x.stage ++ bs [58] ++ itoaB x.green
def formatPlan (l : List Part) : ByteArray := joined (l.map partText) (bs [32, 124, 32])
theorem partText_size {x : Part} (h : SmPart x) (hr : OkPart x) : (partText x).size ≤ 22 * x.stage.length + 23 := by
  have h1 := joined_size (x.stage.map itoaB) (bs [32])
  have h2 := tot_const x.stage itoaB (bs [32]) 21 fun y hy => itoaB_size (hr.1.2 y hy)
  have h3 := itoaB_size hr.2
  have h4 : (bs [32]).size = 1 := rfl
  have h5 : (bs [58]).size = 1 := rfl
  rw [h4, show 21 + 1 = 22 from rfl, Nat.mul_comm] at h2
  unfold partText formatNumbers
  rw [ByteArray.size_append, ByteArray.size_append]
  omega
theorem tot_part (b : ByteArray) : ∀ (l : List Part), (∀ y ∈ l, SmPart y) → (∀ y ∈ l, OkPart y) → tot (l.map partText) b ≤ 22 * lensP l + l.length * (23 + b.size)
  | [], _, _ => by simp [tot]
  | x :: l, h, hr => by
    rw [List.map_cons, tot_cons, lensP_cons, List.length_cons, show (l.length + 1) * (23 + b.size) = l.length * (23 + b.size) + (23 + b.size) from Nat.succ_mul _ _]
    have := tot_part b l (fun y hy => h y (List.mem_cons_of_mem _ hy)) (fun y hy => hr y (List.mem_cons_of_mem _ hy))
    have := partText_size (h x (List.mem_cons_self ..)) (hr x (List.mem_cons_self ..))
    omega
def fullStage (l : List Path) (ids : List Int) : Bool := (l.all fun p => has ids p.id || !together l (putI ids p.id)) && together l ids
theorem putI_smL {a : List Int} {n : Int} (h : a.length ≤ 1000) : Sm (putI a n) := by have := putI_len a n; unfold Sm; omega
theorem sIsFullStage_v (l : List Path) (ids : List Int) (h : Sm l) (hi : ids.length ≤ 1000) : S_sIsFullStage l ids = some (fullStage l ids) := by
  have hl := h
  unfold Sm at hl
  have hs : Sm ids := by unfold Sm; omega
  unfold S_sIsFullStage
  simp only [rws_path, rws_i, len_path]
  refine (all_loop l (fun p => has ids p.id || !together l (putI ids p.id)) (by omega) (fun k => (l, ids, (k : Int))) (some (together l ids)) (some false) rfl ?_ ?_).trans ?_
  · intro rec
    simp [sIsTogether_v l ids h hs]
  · intro rec k p hx hk
    simp only [show decide ((k : Int) < (l.length : Int)) = true by simpa using hk, cnd_tt, geti_path, getZ_at hx, sl6Has_v _ _ hs, bnd_some, rws_path, rws_i, sl6Put_v ids p.id hs, sIsTogether_v l _ h (putI_smL hi), W_n1 (show k ≤ 9223372036854775806 by omega), Int.natCast_succ]
    cases has ids p.id with
    | true => simp
    | false =>
      cases together l (putI ids p.id) <;> simp
  · unfold fullStage
    cases (l.all fun p => has ids p.id || !together l (putI ids p.id)) <;> simp
def search (l : List Path) : List Path → List Int → List (List Int) → List (List Int)
  | [], ids, out => if ids ≠ [] ∧ out.length < 40 ∧ fullStage l ids = true then out ++ [ids] else out
  | p :: r, ids, out => search l r ids (if together l (ids ++ [p.id]) = true then search l r (ids ++ [p.id]) out else out)
theorem search_len (l : List Path) : ∀ (r : List Path) (ids : List Int) (out : List (List Int)), out.length ≤ 40 → (search l r ids out).length ≤ 40
  | [], ids, out, h => by
    unfold search
    split
    · rename_i c; simp; omega
    · exact h
  | p :: r, ids, out, h => by
    unfold search
    refine search_len l r ids _ ?_
    split
    · exact search_len l r _ out h
    · exact h
theorem search_mem (l : List Path) : ∀ (r : List Path) (ids : List Int) (out : List (List Int)), ∀ s ∈ search l r ids out, s ∈ out ∨ (s.length ≤ ids.length + r.length ∧ fullStage l s = true ∧ s ≠ [])
  | [], ids, out, s, h => by
    unfold search at h
    split at h
    · rename_i c
      rcases List.mem_append.1 h with h | h
      · exact .inl h
      · rw [List.mem_singleton.1 h]; exact .inr ⟨by simp, c.2.2, c.1⟩
    · exact .inl h
  | p :: r, ids, out, s, h => by
    unfold search at h
    rcases search_mem l r ids _ s h with h | h
    · split at h
      · rcases search_mem l r _ out s h with h | h
        · exact .inl h
        · refine .inr ⟨?_, h.2⟩
          have := h.1
          simp at this ⊢
          omega
      · exact .inl h
    · refine .inr ⟨?_, h.2⟩
      have := h.1
      simp
      omega
theorem search_v (l : List Path) (hl : l.length ≤ 12) : ∀ (m k : Nat) (ids : List Int) (out : List (List Int)), l.length - k < m → k ≤ l.length → ids.length ≤ k → out.length ≤ 40 → S_sl6Search_n m l (k : Int) ids out = some (search l (l.drop k) ids out)
  | 0, k, ids, out, h, _, _, _ => by omega
  | m + 1, k, ids, out, h, hk, hi, ho => by
    have h' : Sm l := by unfold Sm; omega
    show S_sl6Search_F (S_sl6Search_n m) l (k : Int) ids out = _
    unfold S_sl6Search_F
    simp only [rws_path, rws_i, rws_il_oo, len_path, len_i, len_il]
    by_cases c : k = l.length
    · subst c
      rw [show (((l.length : Nat) : Int) == ((l.length : Nat) : Int)) = true by simp, cnd_tt, List.drop_length]
      unfold search
      by_cases c1 : ids = []
      · subst c1
        simp
      · have hp : 0 < ids.length := List.length_pos_iff.2 c1
        rw [show decide (((ids.length : Nat) : Int) > 0) = true from decide_eq_true (by omega), cnd_tt]
        by_cases c2 : out.length < 40
        · rw [show decide (((out.length : Nat) : Int) < 40) = true from decide_eq_true (by omega), cnd_tt, sIsFullStage_v l ids h' (by omega), bnd_some]
          cases hf : fullStage l ids with
          | true =>
            rw [cnd_tt, ifA_pos (by simp; omega), ifA_pos (by simp; omega), if_pos ⟨c1, c2, rfl⟩]
            have := appe_ilo (o := .own) (p := .own) (q := .own) rfl rfl out ids (fun l => some l)
            first
            | exact this
            | simpa using this
          | false => rw [cnd_ff, if_neg (fun h => by simp at h)]
        · rw [show decide (((out.length : Nat) : Int) < 40) = false from decide_eq_false (by omega), cnd_ff, if_neg (fun h => c2 h.2.1)]
    · have hlt : k < l.length := by omega
      have hx := List.getElem?_eq_getElem hlt
      rw [show (((k : Nat) : Int) == ((l.length : Nat) : Int)) = false by simp; omega, cnd_ff, ifA_pos (by simp; omega)]
      rw [List.drop_eq_getElem_cons hlt]
      generalize l[k] = p at hx
      have hs1 : Sm (ids ++ [p.id]) := by unfold Sm; simp; omega
      simp only [geti_path, getZ_at hx]
      rw [ifA_pos (by simp; omega)]
      have hW : W ((k : Int) + 1) = ((k + 1 : Nat) : Int) := by rw [W_n1 (by omega)]; omega
      simp only [List.nil_append, clrs_i, rws_app_i', hW]
      unfold search
      rw [sIsTogether_v l _ h' hs1, bnd_some]
      cases ht : together l (ids ++ [p.id]) with
      | true =>
        rw [cnd_tt, search_v l hl m (k + 1) (ids ++ [p.id]) out (by omega) (by omega) (by simp; omega) ho, bnd_some]
        simp only [rws_il_oo]
        rw [search_v l hl m (k + 1) ids _ (by omega) (by omega) (by omega) (search_len l _ _ _ ho), bnd_some]
        simp only [rws_il_oo, if_true]
      | false =>
        rw [cnd_ff, search_v l hl m (k + 1) ids out (by omega) (by omega) (by omega) ho, bnd_some]
        simp [rws_il_oo]
def stagesOf (l : List Path) : List (List Int) := if arePaths l = true then search l l [] [] else []
theorem sStagesOf_v (l : List Path) (h : Sm l) : S_sStagesOf l = some (stagesOf l) := by
  unfold S_sStagesOf stagesOf
  simp only [rws_path, sArePaths_v l h, bnd_some]
  cases ha : arePaths l with
  | false => rfl
  | true =>
    have hs := search_v l (are_len ha) 64 0 [] [] (by have := are_len ha; omega) (by omega) (by simp) (by simp)
    simp only [List.drop_zero] at hs
    simp only [Bool.not_true, cnd_ff, if_true]
    rw [show S_sl6Search l 0 [] [] = S_sl6Search_n 64 l ((0 : Nat) : Int) [] [] from rfl, hs, bnd_some]
    simp only [rws_il_oo]
theorem stagesOf_sm (l : List Path) : (stagesOf l).length ≤ 40 ∧ ∀ s ∈ stagesOf l, s.length ≤ 12 := by
  unfold stagesOf
  split
  · rename_i h
    refine ⟨search_len l l [] [] (by simp), fun s hs => ?_⟩
    rcases search_mem l l [] [] s hs with h1 | h1
    · cases h1
    · have := are_len h
      have := h1.1
      simp at this
      omega
  · exact ⟨by simp, fun s hs => (by cases hs)⟩
theorem gives_iter {A α V : Type} {F : (V → Option (α × L1Cur)) → V → Option (α × L1Cur)} {P : α → Prop} (st : Nat → A → L1Cur → V) (N : Nat) (J : Nat → A → Prop)
    (h0 : ∀ rec a g, J N a → CurOk g → Gives (F rec (st N a g)) P)
    (h1 : ∀ rec k a g, k < N → J k a → CurOk g → (∀ a' g', J (k + 1) a' → CurOk g' → Gives (rec (st (k + 1) a' g')) P) → Gives (F rec (st k a g)) P) :
    ∀ (n k : Nat) (a : A) (g : L1Cur), N - k < n → k ≤ N → J k a → CurOk g → Gives (iter F n (st k a g)) P
  | 0, k, a, g, h, _, _, _ => by omega
  | n + 1, k, a, g, h, hk, hJ, hg => by
    rw [iter_succ]
    by_cases c : k = N
    · subst c; exact h0 _ a g hJ hg
    · exact h1 _ k a g (by omega) hJ hg fun a' g' hJ' hg' => gives_iter st N J h0 h1 n (k + 1) a' g' (by omega) (by omega) hJ' hg'
theorem gives_run {A α V : Type} {F : (V → Option (α × L1Cur)) → V → Option (α × L1Cur)} {P : α → Prop} {v : V} (st : Nat → A → L1Cur → V) (N : Nat) (J : Nat → A → Prop) (a : A) (g : L1Cur) (hv : v = st 0 a g) (hN : N ≤ 1099511627776) (hJ : J 0 a) (hg : CurOk g)
    (h0 : ∀ rec a g, J N a → CurOk g → Gives (F rec (st N a g)) P)
    (h1 : ∀ rec k a g, k < N → J k a → CurOk g → (∀ a' g', J (k + 1) a' → CurOk g' → Gives (rec (st (k + 1) a' g')) P) → Gives (F rec (st k a g)) P) : Gives (iter F NN v) P := by
  rw [hv]
  exact gives_iter st N J h0 h1 NN 0 a g (NN_big (by omega)) (Nat.zero_le _) hJ hg
theorem gives_some {α : Type} {a : α} {g : L1Cur} {P : α → Prop} (h : P a) (hg : CurOk g) : Gives (some (a, g)) P := ⟨a, g, rfl, h, hg⟩
theorem appe_want1 (l : List Want) (a b : Int) {β : Type} (K : List Want → Option β) : rws wantR (l.map wantR.enc ++ [[I a, I b]]) K = K (l ++ [(⟨a, b⟩ : Want)]) := appe_want l a b K
theorem ltN {k n : Nat} (h : k < n) : decide ((k : Int) < (n : Int)) = true := by simpa using h
theorem ltNF (n : Nat) : decide ((n : Int) < (n : Int)) = false := by simp
theorem sl15Wants_g {g : L1Cur} (h : CurOk g) {l : List Path} (hl : Sm l) : Gives (S_sl15Wants l g) fun w => w.length ≤ l.length := by
  have hl' := hl
  unfold Sm at hl'
  unfold S_sl15Wants
  simp only [rws_y, rws_path, rws_want, len_path, len_want, geti_path, eta_L1Cur]
  refine gives_run (fun k (w : List Want) g => (((), (l, (w, (k : Int)))), g)) l.length (fun k w => w.length ≤ k) [] g rfl (by omega) (Nat.le_refl _) h ?_ ?_
  · intro rec w g hw hg
    simp only [ltNF, cnd_ff]
    exact gives_some hw hg
  · intro rec k w g hk hw hg hrec
    have hx := List.getElem?_eq_getElem hk
    simp only [ltN hk, cnd_tt, W_n1 (show k ≤ 9223372036854775806 by omega)]
    simp only [Int.natCast_succ] at hrec
    obtain ⟨b, g1, e1, _, hg1⟩ := sl1Once_g hg (n := 2) (by omega)
    rw [e1, bnd_some]
    cases b with
    | true =>
      rw [cnd_tt, getZ_at hx]
      obtain ⟨n, g2, e2, _, hg2⟩ := sl1Below_g hg1 (n := 30) (by omega)
      rw [e2, bnd_some, ifA_pos (by simp; omega)]
      simp only [appe_want1]
      exact hrec _ _ (by simp; omega) hg2
    | false =>
      rw [cnd_ff]
      exact hrec _ _ (by omega) hg1
theorem sl16Prio_g {g : L1Cur} (h : CurOk g) {l : List Path} (hl : Sm l) : Gives (S_sl16Prio l g) fun _ => True := by
  have hl' := hl
  unfold Sm at hl'
  unfold S_sl16Prio
  simp only [rws_y, rws_path, len_path, geti_path, eta_L1Cur]
  refine gives_run (fun k (_ : Unit) g => (((), (l, (k : Int))), (⟨0, 0⟩, g))) l.length (fun _ _ => True) () g rfl (by omega) trivial h ?_ ?_
  · intro rec _ g _ hg
    simp only [ltNF, cnd_ff]
    exact gives_some trivial hg
  · intro rec k _ g hk _ hg hrec
    have hx := List.getElem?_eq_getElem hk
    simp only [ltN hk, cnd_tt, W_n1 (show k ≤ 9223372036854775806 by omega), getZ_at hx]
    simp only [Int.natCast_succ] at hrec
    cases (l[k].kind == 3) with
    | false => rw [cnd_ff]; exact hrec () _ trivial hg
    | true =>
      rw [cnd_tt]
      obtain ⟨b, g1, e1, _, hg1⟩ := sl1Once_g hg (n := 3) (by omega)
      rw [e1, bnd_some]
      cases b with
      | true => rw [Bool.not_true, cnd_ff]; exact hrec () _ trivial hg1
      | false =>
        rw [Bool.not_false, cnd_tt]
        obtain ⟨n, g2, e2, _, hg2⟩ := sl1Below_g hg1 (n := 20) (by omega)
        rw [e2, bnd_some]
        exact gives_some trivial hg2
theorem stage_at {st : List (List Int)} {r : Int} (h0 : 0 ≤ r) (h1 : r < (st.length : Int)) : ∃ s, s ∈ st ∧ ∀ {β : Type} (K : List Int → Option β), getZ st r K = K s := by
  have hlt : r.toNat < st.length := by omega
  refine ⟨st[r.toNat], List.getElem_mem hlt, fun K => ?_⟩
  have e : r = ((r.toNat : Nat) : Int) := by omega
  conv => lhs; rw [e]
  exact getZ_at (List.getElem?_eq_getElem hlt) K
theorem sl14Draw_g {g : L1Cur} (h : CurOk g) {l : List Path} (hl : Sm l) : Gives (S_sl14Draw l g) SmControl := by
  obtain ⟨n40, hs⟩ := stagesOf_sm l
  unfold S_sl14Draw
  simp only [rws_y, rws_path, eta_L1Cur, sStagesOf_v l hl, bnd_some, len_il, geti_il_so, rC_v, eta_Control]
  by_cases c : stagesOf l = []
  · rw [c]
    exact gives_some (by constructor <;> (unfold Sm; simp)) h
  have hp : 0 < (stagesOf l).length := List.length_pos_iff.2 c
  rw [show (((stagesOf l).length : Int) == 0) = false by simp; omega, cnd_ff]
  obtain ⟨r, g1, e1, hr, hg1⟩ := sl1Below_g h (n := ((stagesOf l).length : Int)) (by omega)
  rw [e1, bnd_some]
  obtain ⟨s, hsm, hk⟩ := stage_at hr.1 (hr.2.1 (by omega))
  have hsl := hs s hsm
  have hss : Sm s := by unfold Sm; omega
  have h0 : Sm ([] : List Int) := by unfold Sm; simp
  dsimp only
  rw [hk, ifA_pos (by simp; omega)]
  obtain ⟨k, g2, e2, _, hg2⟩ := sl1Below_g hg1 (n := 12) (by omega)
  rw [e2, bnd_some]
  obtain ⟨b, g3, e3, _, hg3⟩ := sl1Once_g hg2 (n := 3) (by omega)
  rw [e3, bnd_some]
  simp only [clrs_i, rws_i]
  cases b with
  | false => rw [cnd_ff]; exact gives_some ⟨hss, h0⟩ hg3
  | true =>
    rw [cnd_tt]
    obtain ⟨q, g4, e4, hq, hg4⟩ := sl1Below_g hg3 (n := ((stagesOf l).length : Int)) (by omega)
    rw [e4, bnd_some]
    obtain ⟨s2, hsm2, hk2⟩ := stage_at hq.1 (hq.2.1 (by omega))
    have hss2 : Sm s2 := by have := hs s2 hsm2; unfold Sm; omega
    dsimp only
    rw [hk2]
    have hx : SmControl ⟨s, k, [], 0⟩ := ⟨hss, h0⟩
    rw [sAskStage_v l _ s2 hl hx hss2, bnd_some]
    obtain ⟨m, g5, e5, hm, hg5⟩ := sl1Below_g hg4 (n := 3) (by omega)
    rw [e5, bnd_some]
    have hm1 := hm.2.1 (by omega)
    have hm0 := hm.1
    refine gives_run (fun j (x : Control) g => ((l, (m - (j : Int))), ((⟨[], 0, [], 0⟩ : Control), x), g)) m.toNat (fun _ x => SmControl x) (askStage l ⟨s, k, [], 0⟩ s2).1 g5 (by simp) (by omega) (askStage_sm hx hss2) hg5 ?_ ?_
    · intro rec x g hJ hg
      rw [show decide (m - ((m.toNat : Nat) : Int) > 0) = false from decide_eq_false (by omega), cnd_ff]
      exact gives_some hJ hg
    · intro rec j x g hj hJ hg hrec
      rw [show decide (m - (j : Int) > 0) = true from decide_eq_true (by omega), cnd_tt]
      simp only [sTickControl_v l x hl hJ, bnd_some, rC_v, eta_Control]
      rw [show W (m - (j : Int) - 1) = m - ((j + 1 : Nat) : Int) by rw [W_id (by omega) (by omega)]; omega]
      exact hrec _ _ (tick_sm hJ) hg
theorem noteLights_len {l : List Note} {s : Int} {v : List Int} : (noteLights l s v).1.length ≤ l.length + 1 := by
  unfold noteLights addEntry
  repeat' split
  all_goals simp
theorem noteLights_mem {l : List Note} {s : Int} {v : List Int} : ∀ y ∈ (noteLights l s v).1, y ∈ l ∨ y.lights = v := by
  intro y hy
  unfold noteLights addEntry at hy
  repeat' split at hy
  all_goals first
    | exact .inl hy
    | (rcases List.mem_append.1 hy with hy | hy
       · exact .inl hy
       · rw [List.mem_singleton.1 hy]; exact .inr rfl)
theorem sl27Draw_g {g : L1Cur} (h : CurOk g) {n : Int} (h0 : 0 ≤ n) (h1 : n ≤ 100) : Gives (S_sl27Draw_u n g) fun l => (SmR l ∧ ∀ y ∈ l, (y.lights.length : Int) = n) ∧ l.length ≤ 8 := by
  unfold S_sl27Draw_u
  simp only [rws_y, rws_note_uu, rws_i, len_i, eta_L1Cur]
  obtain ⟨t, g1, e1, _, hg1⟩ := sl1Below_g h (n := 5) (by omega)
  rw [e1, bnd_some]
  obtain ⟨m, g2, e2, hm, hg2⟩ := sl1Below_g hg1 (n := 8) (by omega)
  rw [e2, bnd_some]
  have hm1 := hm.2.1 (by omega)
  have hm0 := hm.1
  refine gives_run (fun j (a : List Note × Int) g => (((), (n, (a.1, (a.2, m - (j : Int))))), g)) m.toNat (fun j a => (SmR a.1 ∧ ∀ y ∈ a.1, (y.lights.length : Int) = n) ∧ a.1.length ≤ j) ([], t) g2 (by simp) (by omega) ⟨⟨smR_nil, fun y hy => by cases hy⟩, Nat.le_refl _⟩ hg2 ?_ ?_
  · intro rec a g hJ hg
    simp only
    rw [show decide (m - ((m.toNat : Nat) : Int) > 0) = false from decide_eq_false (by omega), cnd_ff]
    exact gives_some ⟨hJ.1, by have := hJ.2; omega⟩ hg
  · intro rec j a g hj hJ hg hrec
    simp only
    rw [show decide (m - (j : Int) > 0) = true from decide_eq_true (by omega), cnd_tt]
    refine gives_run (fun k (x : List Int) g => (((), (n, (a.1, (a.2, (m - (j : Int), (x, (k : Int))))))), g)) n.toNat (fun k x => x.length = k) [] g rfl (by omega) rfl hg ?_ ?_
    · intro rec2 x g hx hg
      simp only
      rw [show decide (((n.toNat : Nat) : Int) < n) = false from decide_eq_false (by omega), cnd_ff]
      have hxs : Sm x := by unfold Sm; omega
      have ha : a.1.length ≤ 8 := by have := hJ.2; omega
      simp only [borss_note, borss_i, rws_note_ss, rws_i, sNoteLights_v a.1 a.2 x hJ.1.1 (by omega) hxs, bnd_some, AV.okU, okUs, okUss_note, Bool.and_self, toUss_note, rws_note_uu]
      rw [ifA_pos trivial]
      obtain ⟨q, g3, e3, _, hg3⟩ := sl1Below_g hg (n := 9) (by omega)
      rw [e3, bnd_some]
      rw [show W (m - (j : Int) - 1) = m - ((j + 1 : Nat) : Int) by rw [W_id (by omega) (by omega)]; omega]
      exact hrec (_, _) _ ⟨⟨noteLights_sm hJ.1.1 (by omega) hxs, fun y hy => by
        rcases noteLights_mem y hy with h2 | h2
        · exact hJ.1.2 y h2
        · rw [h2, hx]; omega⟩, by have := noteLights_len (l := a.1) (s := a.2) (v := x); have := hJ.2; show (noteLights a.1 a.2 x).1.length ≤ _; omega⟩ hg3
    · intro rec2 k x g hk hx hg hrec2
      simp only
      rw [show decide (((k : Nat) : Int) < n) = true from decide_eq_true (by omega), cnd_tt]
      obtain ⟨q, g3, e3, _, hg3⟩ := sl1Below_g hg (n := 3) (by omega)
      rw [e3, bnd_some, ifA_pos (by simp; omega)]
      simp only [rws_app_i', W_n1 (show k ≤ 9223372036854775806 by omega)]
      simp only [Int.natCast_succ] at hrec2
      exact hrec2 _ _ (by simp; omega) hg3
theorem frzss_set : ∀ (xs : List (List AV)) (i : Nat) (r : List AV), frzss (xs.set i r) = (frzss xs).set i (frzs r)
  | [], _, _ => rfl
  | x :: xs, 0, r => rfl
  | x :: xs, i + 1, r => by simp only [List.set_cons_succ, frzss, frzss_set xs i r]
theorem smR_set {l : List Note} {i : Nat} {x : Note} (h : SmR l) (hx : Sm x.lights) : SmR (l.set i x) := by
  refine ⟨by have := h.1; unfold Sm at this ⊢; rw [List.length_set]; exact this, fun y hy => ?_⟩
  rcases List.mem_or_eq_of_mem_set hy with h2 | rfl
  · exact h.2 y h2
  · exact hx
theorem getn_raw3 {β : Type} {xs : List (List AV)} {i : Nat} {a b c : AV} (hi : i < xs.length) (K : AV × (AV × AV) → Option β) : getn (rawK 3) (xs.set i [a, b, c]) i K = K (a, (b, c)) := by
  unfold getn
  rw [List.getElem?_set_self hi]
  rfl
theorem sl27Any_g {g : L1Cur} (h : CurOk g) : Gives (S_sl27Any g) SmR := by
  unfold S_sl27Any
  simp only [rws_y, eta_L1Cur, len_note, frzss_note, rws_note_oo]
  obtain ⟨n, g1, e1, hn, hg1⟩ := sl1Below_g h (n := 4) (by omega)
  rw [e1, bnd_some]
  have hn1 := hn.2.1 (by omega)
  have hn0 := hn.1
  have hW : W (1 + n) = 1 + n := W_id (by omega) (by omega)
  obtain ⟨l, g2, e2, ⟨⟨hl, hln⟩, hl8⟩, hg2⟩ := sl27Draw_g hg1 (n := 1 + n) (by omega) (by omega)
  dsimp only
  rw [hW, e2, bnd_some]
  dsimp only
  by_cases c : l = []
  · subst c
    exact gives_some smR_nil hg2
  have hp : 0 < l.length := List.length_pos_iff.2 c
  rw [show (((l.length : Nat) : Int) == 0) = false by simp; omega, cnd_ff]
  obtain ⟨r, g3, e3, hr, hg3⟩ := sl1Below_g hg2 (n := ((l.length : Nat) : Int)) (by omega)
  rw [e3, bnd_some]
  have hr1 := hr.2.1 (by omega)
  have hr0 := hr.1
  have hlt : r.toNat < l.length := by omega
  have hx := List.getElem?_eq_getElem hlt
  generalize l[r.toNat] = p at hx
  have hpl : Sm p.lights := hl.2 p (List.mem_of_getElem? hx)
  have hpn := hln p (List.mem_of_getElem? hx)
  have hpl' := hpl
  unfold Sm at hpl'
  obtain ⟨q, g4, e4, _, hg4⟩ := sl1Below_g hg3 (n := 9) (by omega)
  rw [e4, bnd_some]
  obtain ⟨a, g5, e5, _, hg5⟩ := sl1Int_g hg4 (l := [Neg.neg 1, 0, 1000000, 1000001]) (by simp) (by simp) (P := fun _ => True) (fun _ _ => trivial)
  obtain ⟨b, g6, e6, _, hg6⟩ := sl1Int_g hg4 (l := [Neg.neg 1, 3]) (by simp) (by simp) (P := fun _ => True) (fun _ _ => trivial)
  simp only [e5, e6, bnd_some, getn_note_uu, getN_at hx, frzss_set, frzss_note, frzs, AV.frz, frzss_i, List.length_set, len_note]
  have hcond : (0 ≤ r ∧ r < ((l.length : Nat) : Int)) := ⟨hr0, hr1⟩
  simp only [ifA_pos hcond, cnd_if]
  split
  · rw [set_note_ooo]
    exact gives_some (smR_set hl hpl) hg5
  split
  · rw [ifA_pos (by simp; omega), getn_raw3 (by rw [len_note]; exact hlt)]
    rw [List.set_set]
    have e : List.map iR.enc p.lights ++ [[I 1]] = (p.lights ++ [1]).map iR.enc := (List.map_append (f := iR.enc) (l₁ := p.lights) (l₂ := [(1 : Int)])).symm
    rw [e]
    refine (congrArg (fun z => Gives z SmR) (set_note_ooo l r.toNat p.second (p.lights ++ [1]) p.sig fun l7 => some (l7, g4))).mpr ?_
    exact gives_some (smR_set hl (by show Sm (p.lights ++ [1]); unfold Sm; simp; omega)) hg4
  split
  · rw [set_note_ooo]
    exact gives_some (smR_set hl hpl) hg4
  split
  · have h0 : 0 < p.lights.length := by omega
    have hx0 := List.getElem?_eq_getElem h0
    simp only [borss_i, geti_i, getZ0 hx0, Int.toNat_zero, getn_i, getN_at hx0]
    have e : (p.lights.map iR.enc).set 0 [I b] = (p.lights.set 0 b).map iR.enc := (List.map_set (f := iR.enc) (l := p.lights) (i := 0) (a := b)).symm
    rw [e, set_note_ooo]
    exact gives_some (smR_set hl (by show Sm (p.lights.set 0 b); unfold Sm; rw [List.length_set]; omega)) hg6
  · exact gives_some hl hg4
theorem cover_all {l : List Path} : ∀ (r : List Path) (c : List (List Int)), (∀ s ∈ c, Sm s) → (∀ s ∈ r.foldl (coverStep l) c, Sm s) ∧ (r.foldl (coverStep l) c).length ≤ c.length + r.length
  | [], c, h => ⟨h, by simp⟩
  | p :: r, c, h => by
    rw [List.foldl_cons]
    have h2 : (∀ s ∈ coverStep l c p, Sm s) ∧ (coverStep l c p).length ≤ c.length + 1 := by
      unfold coverStep
      split
      · exact ⟨h, by omega⟩
      · refine ⟨fun s hs => ?_, by simp⟩
        rcases List.mem_append.1 hs with hs | hs
        · exact h s hs
        · rw [List.mem_singleton.1 hs]; exact addToStage_sm (sm_one _)
    obtain ⟨a1, a2⟩ := cover_all r _ h2.1
    exact ⟨a1, by simp; omega⟩
theorem cover_sms (l : List Path) : (∀ s ∈ cover l, Sm s) ∧ (cover l).length ≤ 12 := by
  unfold cover
  split
  · rename_i h
    obtain ⟨a1, a2⟩ := cover_all (l := l) l [] (fun s hs => (by cases hs))
    have := are_len h
    exact ⟨a1, by simp at a2; omega⟩
  · exact ⟨fun s hs => (by cases hs), by simp⟩
def planParts (l : List Path) : List Part := (cover l).map fun s => ⟨s, leastGreen l s⟩
def planFor (l : List Path) : List Part := if isPlan l (planParts l) = true then planParts l else []
theorem planParts_sm (l : List Path) : SmL (planParts l) := by
  obtain ⟨h1, h2⟩ := cover_sms l
  refine ⟨by unfold planParts Sm; rw [List.length_map]; omega, fun y hy => ?_⟩
  obtain ⟨s, hs, rfl⟩ := List.mem_map.1 hy
  exact h1 s hs
theorem appe_part (l : List Part) (s : List Int) (g : Int) {β : Type} (K : List Part → Option β) : rws (partR Own.shr) (l.map (partR Own.shr).enc ++ [[(AV.slc Own.shr 1 (s.map iR.enc)), I g]]) K = K (l ++ [(⟨s, g⟩ : Part)]) :=
  (rws_app (partR Own.shr) _ _ K).trans ((rws_part_ss l _).trans (rws_part_ss [(⟨s, g⟩ : Part)] fun l' => K (l ++ l')))
theorem take_map_succ {α γ : Type} (f : α → γ) {l : List α} {k : Nat} {x : α} (h : l[k]? = some x) : (l.take k).map f ++ [f x] = (l.take (k + 1)).map f := by
  rw [List.take_add_one, h]
  simp
def cb (c : UInt8) (s : ByteArray) : Nat := s.data.toList.count c
theorem cb_app (c : UInt8) (a b : ByteArray) : cb c (a ++ b) = cb c a + cb c b := by
  unfold cb
  rw [ByteArray.data_append, Array.toList_append, List.count_append]
theorem dec_ge : ∀ (u : Nat), ∀ x ∈ Lib.decDigits u, 48 ≤ x.toNat ∧ x.toNat ≤ 57 := by
  intro u
  induction u using Nat.strongRecOn with
  | _ u ih =>
    intro x hx
    have key : ∀ k : Nat, k < 10 → 48 ≤ (UInt8.ofNat (48 + k)).toNat ∧ (UInt8.ofNat (48 + k)).toNat ≤ 57 := by decide
    rw [Lib.decDigits] at hx
    split at hx
    · rename_i h
      rw [List.mem_singleton] at hx
      subst hx
      exact key u h
    · rcases List.mem_append.1 hx with hx | hx
      · exact ih (u / 10) (by omega) x hx
      · rw [List.mem_singleton] at hx
        subst hx
        exact key _ (by omega)
theorem cb_itoa {c : UInt8} (h1 : c ≠ 45) (h2 : c.toNat < 48 ∨ 57 < c.toNat) (n : Int) : cb c (itoaB n) = 0 := by
  have hd : ∀ u, (Lib.decDigits u).count c = 0 := fun u => List.count_eq_zero.2 fun hm => by
    have := dec_ge u c hm
    omega
  show (Lib.itoa n).count c = 0
  unfold Lib.itoa
  split
  · rw [List.count_cons, hd]
    simp [Ne.symm h1]
  · exact hd _
theorem cb_jn (c : UInt8) (b : ByteArray) : ∀ (r : List ByteArray) (a : ByteArray), cb c (jn a b r) = cb c a + (r.map fun x => cb c b + cb c x).sum
  | [], a => by simp [jn]
  | x :: r, a => by
    show cb c (jn (a ++ b ++ x) b r) = _
    rw [cb_jn c b r, cb_app, cb_app]
    simp
    omega
theorem cb_joined0 {c : UInt8} {b : ByteArray} {l : List ByteArray} (hd : c ≠ 45) (hb : cb c b = 0) (h : ∀ x ∈ l, cb c x = 0) : cb c (joined l b) = 0 := by
  cases l with
  | nil =>
    show List.count c [45] = 0
    simp [Ne.symm hd]
  | cons x r =>
    show cb c (jn x b r) = 0
    rw [cb_jn, h x (List.mem_cons_self ..)]
    have : ∀ (r : List ByteArray), (∀ x ∈ r, cb c x = 0) → (r.map fun x => cb c b + cb c x).sum = 0 := by
      intro r
      induction r with
      | nil => intro _; rfl
      | cons y r ih =>
        intro hr
        rw [List.map_cons, List.sum_cons, ih fun z hz => hr z (List.mem_cons_of_mem _ hz), hb, hr y (List.mem_cons_self ..)]
    rw [this r fun y hy => h y (List.mem_cons_of_mem _ hy)]
theorem cb_joined1 {c : UInt8} {b : ByteArray} {l : List ByteArray} (hd : c ≠ 45) (hb : cb c b = 0) (h : ∀ x ∈ l, cb c x = 1) : cb c (joined l b) = l.length := by
  cases l with
  | nil =>
    show List.count c [45] = 0
    simp [Ne.symm hd]
  | cons x r =>
    show cb c (jn x b r) = _
    rw [cb_jn, h x (List.mem_cons_self ..)]
    have : ∀ (r : List ByteArray), (∀ x ∈ r, cb c x = 1) → (r.map fun x => cb c b + cb c x).sum = r.length := by
      intro r
      induction r with
      | nil => intro _; rfl
      | cons y r ih =>
        intro hr
        rw [List.map_cons, List.sum_cons, ih fun z hz => hr z (List.mem_cons_of_mem _ hz), hb, hr y (List.mem_cons_self ..), List.length_cons]
        omega
    rw [this r fun y hy => h y (List.mem_cons_of_mem _ hy), List.length_cons]
    omega
theorem cb_numbers_colon (l : List Int) : cb 58 (formatNumbers l) = 0 := cb_joined0 (by decide) (by decide) fun x hx => by
  obtain ⟨n, _, rfl⟩ := List.mem_map.1 hx
  exact cb_itoa (by decide) (by decide) n
theorem cb_plan (p : List Part) : cb 58 (formatPlan p) = p.length := by
  unfold formatPlan
  rw [cb_joined1 (by decide) (by decide) fun x hx => by
    obtain ⟨n, _, rfl⟩ := List.mem_map.1 hx
    show cb 58 (partText n) = 1
    unfold partText
    rw [cb_app, cb_app, cb_numbers_colon, cb_itoa (by decide) (by decide)]
    decide, List.length_map]
theorem cb_four (a b c d : Int) : cb 32 (formatNumbers [a, b, c, d]) = 3 := by
  show cb 32 (jn (itoaB a) (bs [32]) [itoaB b, itoaB c, itoaB d]) = 3
  rw [cb_jn]
  simp only [List.map_cons, List.map_nil, List.sum_cons, List.sum_nil, cb_itoa (c := 32) (by decide) (by decide)]
  decide
theorem cb_light (v : Int) : cb 32 (formatLights [v]) = 0 := by
  show cb 32 (lightCh v) = 0
  unfold lightCh
  split <;> (try split) <;> (try split) <;> decide
theorem bytes_loop {V β : Type} (s : ByteArray) (c : UInt8) (hs : s.size ≤ 1099511627776) (st : Nat → Int → V) (K : Int → Option β) {F : (V → Option β) → V → Option β} {v : V} (hv : v = st 0 0)
    (h0 : ∀ rec n, F rec (st s.size n) = K n)
    (h1 : ∀ rec k x (n : Nat), s.data.toList[k]? = some x → k < s.size → n ≤ k → F rec (st k n) = if x = c then rec (st (k + 1) ((n + 1 : Nat) : Int)) else rec (st (k + 1) n)) : iter F NN v = K (cb c s) := by
  have hsz : s.data.toList.length = s.size := Array.length_toList
  have := count_loop s.data.toList (fun x => x == c) (by omega) st K hv (fun rec n => by rw [hsz]; exact h0 rec n) (fun rec k x n hx hk hn => by
    rw [h1 rec k x n hx (by omega) hn]
    by_cases e : x = c
    · simp [e]
    · simp [e])
  rw [this]
  unfold cb cnt
  rw [List.count_eq_length_filter]
theorem iFormatPlan_v (l : List Part) (h : Sm l ∧ ∀ y ∈ l, SmPart y) (hr : ∀ y ∈ l, OkPart y) (hs : lensP l ≤ 1048576) : S_iFormatPlan l = some (formatPlan l) := by
  obtain ⟨hl, he⟩ := h
  unfold Sm at hl
  have ht := tot_part (bs [32, 124, 32]) l he hr
  have hb : (bs [32, 124, 32]).size = 3 := rfl
  rw [hb] at ht
  have step : ∀ x ∈ l, ((formatNumbers x.stage).size + 1 ≤ 1099511627776) ∧ ((formatNumbers x.stage ++ bs [58]).size + (itoaB x.green).size ≤ 1099511627776) := by
    intro x hx
    have h1 := formatNumbers_size (he x hx) (hr x hx).1.2
    have h3 := itoaB_size (hr x hx).2
    have h5 : (bs [58]).size = 1 := rfl
    rw [ByteArray.size_append]
    omega
  unfold S_iFormatPlan formatPlan
  simp
  refine (grow_loop l partText (by omega) (fun k acc => (acc, l, (l.length : Int), (k : Int))) (fun a => S_ijoined a (bs [32, 124, 32])) rfl ?_ ?_).trans ?_
  · intro rec acc ha
    simp
    rfl
  · intro rec k x acc hx hk ha
    obtain ⟨s1, s2⟩ := step x (mem_at hx)
    simp [hk, getZ_at hx, iFormatNumbers_v _ (he x (mem_at hx)) (hr x (mem_at hx)).1.2, iFormatInt_v _ (hr x (mem_at hx)).2, W_n1 (show k ≤ 9223372036854775806 by omega), ha, show (k + 1) * 16 ≤ 140737488355328 by omega, show k ≤ 1152921504606846975 by omega, bs_eq, bs_size, s1]
    simp [ByteArray.size_append, bs_size] at s2
    simp [s2, partText]
    rw [ifA_pos (by omega)]
  · exact ijoined_v _ _ (by simp; omega) (by omega)
def reportText (x : Report) : ByteArray := itoaB x.path ++ bs [32] ++ itoaB x.second ++ bs [32] ++ formatLights [x.light] ++ bs [32] ++ itoaB x.since ++ bs [32] ++ itoaB x.other
theorem iFormatReport_v (x : Report) (hr : OkReport x) : S_iFormatReport x = some (reportText x) := by
  obtain ⟨k0, k1, k2, k3, k4⟩ := hr
  have hs : Sm [x.light] := by unfold Sm; simp
  have z0 := itoaB_size k0
  have z1 := itoaB_size k1
  have z2 := formatLights_size hs
  have z3 := itoaB_size k3
  have z4 := itoaB_size k4
  have e : ∀ K : List Int → Option ByteArray, rws iR [[I x.light]] K = K [x.light] := fun K => rfl
  unfold S_iFormatReport reportText
  simp only [e, iFormatLights_v _ hs, iFormatInt_v _ k0, iFormatInt_v _ k1, iFormatInt_v _ k3, iFormatInt_v _ k4, bnd_some, bs_eq, ByteArray.size_append, bs_size, List.length_cons, List.length_nil]
  rw [ifA_pos (by omega), ifA_pos (by omega), ifA_pos (by omega), ifA_pos (by omega), ifA_pos (by omega), ifA_pos (by omega), ifA_pos (by omega), ifA_pos (by omega)]
theorem cb_report (x : Report) : cb 32 (reportText x) = 4 := by
  unfold reportText
  simp only [cb_app, cb_itoa (c := 32) (by decide) (by decide), cb_light]
  decide
theorem report_size {x : Report} (hr : OkReport x) : (reportText x).size ≤ 1048700 := by
  obtain ⟨k0, k1, k2, k3, k4⟩ := hr
  have hs : Sm [x.light] := by unfold Sm; simp
  have z0 := itoaB_size k0
  have z1 := itoaB_size k1
  have z2 := formatLights_size hs
  have z3 := itoaB_size k3
  have z4 := itoaB_size k4
  unfold reportText
  simp only [ByteArray.size_append, bs_size, List.length_cons, List.length_nil]
  omega
theorem iFormatControl_ne (x : Control) (h : SmControl x) (hr : OkControl x) : ∃ v, S_iFormatControl x = some v ∧ v.size ≠ 0 := by
  obtain ⟨h0, h1⟩ := h
  obtain ⟨k0, k1, k2, k3⟩ := hr
  have z0 := formatNumbers_size h0 k0.2
  have z1 := itoaB_size k1
  have z2 := formatNumbers_size h1 k2.2
  have z3 := itoaB_size k3
  unfold S_iFormatControl
  simp only [rws_i, len_i, iFormatNumbers_v _ h0 k0.2, iFormatNumbers_v _ h1 k2.2, iFormatInt_v _ k1, iFormatInt_v _ k3, bnd_some, bs_eq, ByteArray.size_append, bs_size, List.length_cons, List.length_nil]
  simp only [ifA_pos (show (formatNumbers x.stage).size + (0 + 1 + 1 + 1) ≤ 1099511627776 by omega), ifA_pos (show (formatNumbers x.stage).size + (0 + 1 + 1 + 1) + (itoaB x.since).size ≤ 1099511627776 by omega)]
  by_cases c : ((x.next.length : Nat) : Int) > 0
  · simp only [c, decide_true, cnd_tt]
    refine ⟨formatNumbers x.stage ++ bs [32, 64, 32] ++ itoaB x.since ++ (bs [32, 62, 32] ++ formatNumbers x.next ++ bs [32, 105, 110, 32] ++ itoaB x.left), ?_, ?_⟩
    · rw [ifA_pos (by omega), ifA_pos (by omega), ifA_pos (by omega), ifA_pos (by omega)]
    · simp only [ByteArray.size_append, bs_size, List.length_cons, List.length_nil]
      omega
  · simp only [c, decide_false, cnd_ff]
    refine ⟨_, rfl, ?_⟩
    simp only [ByteArray.size_append, bs_size, List.length_cons, List.length_nil]
    omega
def modeText (m : Int) : ByteArray := if m = 0 then bs [102, 117, 108, 108] else if m = 1 then bs [98, 108, 105, 110, 107] else if m = 2 then bs [100, 97, 114, 107] else bs []
theorem iModeName_v (m : Int) : S_iModeName m = some (modeText m) := by
  unfold S_iModeName modeText
  simp only [cnd_if, beq_iff_eq]
  split
  · rfl
  split
  · rfl
  split
  · rfl
  · rfl
theorem modeText_size (m : Int) : (modeText m).size ≤ 5 := by
  unfold modeText
  split
  · decide
  split
  · decide
  split <;> decide
theorem cb_mode (m : Int) : cb 32 (modeText m) = 0 := by
  unfold modeText
  split
  · decide
  split
  · decide
  split <;> decide
def townText (t : Town) : ByteArray := itoaB t.now ++ bs [32] ++ modeText (mode t.paths t.lamps t.power) ++ bs [32] ++ formatNumbers [(t.paths.length : Int), (t.wants.length : Int), (t.record.length : Int), t.books]
theorem iFormatTown_v (t : Town) (h : SmTown t) (h1 : Rg t.now) (h2 : Rg t.books) : S_iFormatTown t = some (townText t) ∧ (townText t).size ≤ 1000 := by
  have z1 := itoaB_size h1
  have zm := modeText_size (mode t.paths t.lamps t.power)
  have hp := h.1
  have hw := h.2.2.1
  have hr := h.2.2.2.2.1
  unfold Sm at hp hw hr
  have hs : Sm [(t.paths.length : Int), (t.wants.length : Int), (t.record.length : Int), t.books] := by unfold Sm; simp
  have hrg : ∀ y ∈ [(t.paths.length : Int), (t.wants.length : Int), (t.record.length : Int), t.books], Rg y := by
    intro y hy
    simp only [List.mem_cons, List.not_mem_nil, or_false] at hy
    rcases hy with rfl | rfl | rfl | rfl
    · exact ⟨by omega, by omega⟩
    · exact ⟨by omega, by omega⟩
    · exact ⟨by omega, by omega⟩
    · exact h2
  have zn : (formatNumbers [(t.paths.length : Int), (t.wants.length : Int), (t.record.length : Int), t.books]).size ≤ 100 := by
    unfold formatNumbers
    have a := joined_size ([(t.paths.length : Int), (t.wants.length : Int), (t.record.length : Int), t.books].map itoaB) (bs [32])
    have b := tot_const [(t.paths.length : Int), (t.wants.length : Int), (t.record.length : Int), t.books] itoaB (bs [32]) 21 fun y hy => itoaB_size (hrg y hy)
    have c : (bs [32]).size = 1 := rfl
    rw [c] at b
    simp only [List.length_cons, List.length_nil] at b
    omega
  have e : ∀ (a b c d : Int) (K : List Int → Option ByteArray), rws iR [[I a], [I b], [I c], [I d]] K = K [a, b, c, d] := fun _ _ _ _ K => rfl
  have hsz : (townText t).size ≤ 1000 := by
    unfold townText
    simp only [ByteArray.size_append, bs_size, List.length_cons, List.length_nil]
    omega
  refine ⟨?_, hsz⟩
  unfold S_iFormatTown townText
  simp only [rC_v, rT_ss, rT_so, rT_oo, rT_uu, iFormatInt_v _ h1, bnd_some, iModeOf_v t h, iModeName_v, len_path, len_want, len_note, e, iFormatNumbers_v _ hs hrg, bs_eq, ByteArray.size_append, bs_size, List.length_cons, List.length_nil]
  rw [ifA_pos (by omega), ifA_pos (by omega), ifA_pos (by omega), ifA_pos (by omega)]
theorem cb_town (t : Town) : cb 32 (townText t) = 5 := by
  unfold townText
  simp only [cb_app, cb_itoa (c := 32) (by decide) (by decide), cb_mode, cb_four]
  decide
theorem lights_size (l : List Int) : (formatLights l).size = if l.length = 0 then 1 else l.length := by
  unfold formatLights joined
  cases l with
  | nil => rfl
  | cons x l =>
    show (jn (lightCh x) (bs []) (l.map lightCh)).size = _
    rw [jn_size, lightCh_size]
    have ht : ∀ l : List Int, tot (l.map lightCh) (bs []) = l.length := by
      intro l
      induction l with
      | nil => rfl
      | cons y l ih =>
        rw [List.map_cons, tot_cons, ih, lightCh_size]
        simp [bs_size]; omega
    rw [ht]
    simp; omega
theorem borss_part_s (l : List Part) : borss (l.map (partR Own.shr).enc) = l.map (partR Own.shr).enc := borss_map (fun x => by
  show bors [.slc Own.shr 1 (x.stage.map iR.enc), I x.green] = [.slc Own.shr 1 (x.stage.map iR.enc), I x.green]
  simp [bors, AV.bor, borss_i]) l
theorem sPlanFor_u_v (l : List Path) (h : Sm l) : S_sPlanFor_u l = some (planFor l) := by
  obtain ⟨hs, hn⟩ := cover_sms l
  unfold S_sPlanFor_u
  simp only [rws_path, sCoverOf_v l h, bnd_some, rws_il_ss, rws_il_so, len_il, geti_il_ss, rws_i, rws_part_ss]
  refine (iter_listJ (cover l) (by omega) (fun k acc => (l, acc, cover l, (k : Int))) [] (fun k acc => acc = ((cover l).take k).map fun s => (⟨s, leastGreen l s⟩ : Part)) rfl (fun _ _ _ => some (planFor l)) rfl ?_ ?_).trans rfl
  · intro rec acc ha
    rw [List.take_length] at ha
    have ha : acc = planParts l := ha
    subst ha
    simp only [show decide ((((cover l).length : Nat) : Int) < (((cover l).length : Nat) : Int)) = false from decide_eq_false (by omega), cnd_ff, rws_path, borss_part_s, rws_part_ss, sIsPlan_v l _ h (planParts_sm l), bnd_some]
    unfold planFor
    cases isPlan l (planParts l) <;> rfl
  · intro rec k s acc ha hx hk hr
    have hlen : acc.length = k := by rw [ha, List.length_map, List.length_take]; omega
    have hr' := hr (acc ++ [⟨s, leastGreen l s⟩]) (by rw [ha]; exact take_map_succ (fun s => (⟨s, leastGreen l s⟩ : Part)) hx)
    simp only [Int.natCast_succ] at hr'
    simp [hk, getZ_at hx, sLeastGreen_v l s h (hs s (List.mem_of_getElem? hx)), appe_part, W_n1 (show k ≤ 9223372036854775806 by omega), hlen, show (k + 1) * 32 ≤ 140737488355328 by omega, show k ≤ 1152921504606846975 by omega, hr']
def Pl (p : List Part) : Prop := p.length ≤ 6 ∧ ∀ x ∈ p, x.stage.length ≤ 20 ∧ (∀ y ∈ x.stage, Rg y) ∧ Rg x.green
theorem planFor_pl (l : List Path) : Pl (planFor l) ∧ ∀ x ∈ planFor l, 1 ≤ x.stage.length := by
  unfold planFor
  split
  · rename_i h
    have h1 := isPlan_spec h
    have key : ∀ x ∈ planParts l, partOk l x = true := fun x hx => by
      unfold isPlan at h
      simp only [Bool.and_eq_true] at h
      exact List.all_eq_true.1 h.2.1 x hx
    refine ⟨⟨h1.2.1, fun x hx => ?_⟩, fun x hx => ?_⟩
    · have := key x hx
      unfold partOk at this
      simp only [Bool.and_eq_true] at this
      have ht := this.2.1
      refine ⟨together_len ht, fun y hy => ?_, ?_⟩
      · have := are_ids h1.2.2.2 (together_find ht y hy)
        exact ⟨by omega, by omega⟩
      · have := h1.2.2.1 x hx
        exact ⟨by omega, by omega⟩
    · have := key x hx
      unfold partOk at this
      simp only [Bool.and_eq_true] at this
      have h0 := this.1
      cases hs : x.stage with
      | nil => rw [hs] at h0; cases h0
      | cons a b => simp
  · exact ⟨⟨by simp, fun x hx => by cases hx⟩, fun x hx => by cases hx⟩
def PlN (p : List Part) : Prop := Pl p ∧ ∀ x ∈ p, 1 ≤ x.stage.length
theorem setp (p : List Part) (i : Nat) (s : List Int) (v : Int) {β : Type} (K : List Part → Option β) : rws (partR Own.shr) (List.set (p.map (partR Own.shr).enc) i [(AV.slc Own.shr 1 (s.map iR.enc)), I v]) K = K (p.set i ⟨s, v⟩) := by
  have e : List.set (p.map (partR Own.shr).enc) i [(AV.slc Own.shr 1 (s.map iR.enc)), I v] = (p.set i (⟨s, v⟩ : Part)).map (partR Own.shr).enc := (List.map_set (f := (partR Own.shr).enc) (l := p) (i := i) (a := (⟨s, v⟩ : Part))).symm
  rw [e, rws_part_ss]
theorem n_pv {β : Type} (l : List Part) (n : Nat) (K : Part → Option β) : n_part .shr .shr l n K = getN l n K := getn_part_ss l n K
theorem W_rg' (n : Int) : Rg (W n) := by
  have h : W n = (n + 9223372036854775808) % 18446744073709551616 - 9223372036854775808 := by
    unfold W IntKind.wrap
    simp [IntKind.bits, IntKind.signed]
    omega
  rw [h]
  exact ⟨by omega, by omega⟩
theorem pl_set {p : List Part} (h : PlN p) {i : Nat} {x : Part} (hx : p[i]? = some x) {v : Int} (hv : Rg v) : PlN (p.set i ⟨x.stage, v⟩) := by
  obtain ⟨⟨h1, h2⟩, h3⟩ := h
  have hm := List.mem_of_getElem? hx
  refine ⟨⟨by rw [List.length_set]; exact h1, fun y hy => ?_⟩, fun y hy => ?_⟩
  · rcases List.mem_or_eq_of_mem_set hy with hy | rfl
    · exact h2 y hy
    · exact ⟨(h2 x hm).1, (h2 x hm).2.1, hv⟩
  · rcases List.mem_or_eq_of_mem_set hy with hy | rfl
    · exact h3 y hy
    · exact h3 x hm
theorem sl8Draw_u_g {g : L1Cur} (h : CurOk g) : Gives (S_sl8Draw_u g) fun x => PlN x.2 := by
  unfold S_sl8Draw_u
  simp only [rws_y, rws_path, rws_part_ss, eta_L1Cur, len_part, setp]
  obtain ⟨l, g1, e1, hl, hg1⟩ := sl5Draw_g h
  rw [e1, bnd_some]
  simp only [sPlanFor_u_v l (drawn_sm hl.1), bnd_some]
  rw [gives_iff]
  refine iter_ex (fun v => (4 - v.1.2.2).toNat) (fun v => 0 ≤ v.1.2.2 ∧ PlN v.2.1 ∧ CurOk v.2.2) ?_ NN _ ⟨Int.le_refl _, (show PlN (planFor l) from planFor_pl l), hg1⟩ (NN_big (by show (4 - (0 : Int)).toNat ≤ _; decide))
  rintro rec ⟨⟨u, l', i⟩, p, g2⟩ ⟨hi, hp, hg2⟩ hrec
  simp only at hi hp hg2 hrec ⊢
  have second : ∀ (T : Option (((List Path) × (List Part)) × L1Cur)), (∃ b, T = some b ∧ PlN b.1.2 ∧ CurOk b.2) → ∃ b, T = some b ∧ PlN b.1.2 ∧ CurOk b.2 := fun _ h => h
  by_cases c : i < 4
  case' pos =>
    rw [decide_eq_true c, cnd_tt]
    by_cases c2 : ((p.length : Nat) : Int) = 0
    case' pos =>
      rw [show (((p.length : Nat) : Int) == 0) = true by simpa using c2, cnd_tt]
      obtain ⟨l2, g3, e3, hl2, hg3⟩ := sl5Draw_g hg2
      rw [e3, bnd_some]
      simp only [sPlanFor_u_v l2 (drawn_sm hl2.1), bnd_some]
      have hW : W (i + 1) = i + 1 := W_id (by omega) (by omega)
      refine hrec _ ⟨by show 0 ≤ W (i + 1); omega, (show PlN (planFor l2) from planFor_pl l2), hg3⟩ (by show (4 - W (i + 1)).toNat < (4 - i).toNat; omega)
    case' neg => rw [show (((p.length : Nat) : Int) == 0) = false by simpa using c2, cnd_ff]
  case' neg => rw [decide_eq_false c, cnd_ff]
  all_goals
    refine iter_ex (fun v => ((v.2.1.length : Int) - v.1.2.2).toNat) (fun v => 0 ≤ v.1.2.2 ∧ PlN v.2.1 ∧ CurOk v.2.2) ?_ NN _ ⟨Int.le_refl _, hp, hg2⟩ (NN_big (by have := hp.1.1; show ((p.length : Int) - 0).toNat ≤ _; omega))
    rintro rec2 ⟨⟨u2, l3, j⟩, q, g4⟩ ⟨hj, hq, hg4⟩ hrec2
    simp only at hj hq hg4 hrec2 ⊢
    by_cases c3 : j < ((q.length : Nat) : Int)
    · rw [decide_eq_true c3, cnd_tt, ifA_pos (by omega), n_pv]
      have hlt : j.toNat < q.length := by omega
      have hx := List.getElem?_eq_getElem hlt
      generalize q[j.toNat] = x at hx
      rw [getN_at hx]
      obtain ⟨b, g5, e5, _, hg5⟩ := sl1Below_g hg4 (n := 12) (by omega)
      rw [e5, bnd_some, ifA_pos (by omega), n_pv, getN_at hx]
      have hW : W (j + 1) = j + 1 := W_id (by have := hq.1.1; omega) (by have := hq.1.1; omega)
      refine hrec2 _ ⟨by show 0 ≤ W (j + 1); omega, pl_set hq hx (W_rg' _), hg5⟩ ?_
      show (((q.set j.toNat _).length : Int) - W (j + 1)).toNat < ((q.length : Int) - j).toNat
      rw [List.length_set]
      omega
    · rw [decide_eq_false c3, cnd_ff]
      exact ⟨_, rfl, hq, hg4⟩
theorem frzss_part_s (l : List Part) : frzss (l.map (partR Own.shr).enc) = l.map (partR Own.shr).enc := frzss_map (fun _ => rfl) l
theorem setpf (p : List Part) (i : Nat) (s : List Int) (v : Int) {β : Type} (K : List Part → Option β) : rws (partR Own.shr) (frzss (List.set (p.map (partR Own.shr).enc) i [(AV.slc Own.shr 1 (s.map iR.enc)), I v])) K = K (p.set i ⟨s, v⟩) := by
  have e : List.set (p.map (partR Own.shr).enc) i [(AV.slc Own.shr 1 (s.map iR.enc)), I v] = (p.set i (⟨s, v⟩ : Part)).map (partR Own.shr).enc := (List.map_set (f := (partR Own.shr).enc) (l := p) (i := i) (a := (⟨s, v⟩ : Part))).symm
  rw [e, frzss_part_s, rws_part_ss]
theorem pl_set2 {p : List Part} (h : Pl p) {i : Nat} {x : Part} (hx : p[i]? = some x) {s : List Int} {v : Int} (hs : s.length ≤ 20 ∧ ∀ y ∈ s, Rg y) (hv : Rg v) : Pl (p.set i ⟨s, v⟩) := by
  obtain ⟨h1, h2⟩ := h
  refine ⟨by rw [List.length_set]; exact h1, fun y hy => ?_⟩
  rcases List.mem_or_eq_of_mem_set hy with hy | rfl
  · exact h2 y hy
  · exact ⟨hs.1, hs.2, hv⟩
theorem sl8Any_g {g : L1Cur} (h : CurOk g) : Gives (S_sl8Any g) fun x => Pl x.2 := by
  unfold S_sl8Any
  simp only [rws_y, rws_path, rws_part_ss, eta_L1Cur, len_part, setpf, frzss_part_s, len_i, take_i, drop_i, take_part, drop_part]
  obtain ⟨⟨l, p⟩, g1, e1, hp, hg1⟩ := sl8Draw_u_g h
  rw [e1, bnd_some]
  have hp : PlN p := hp
  have h6 := hp.1.1
  simp only
  by_cases c : ((p.length : Nat) : Int) = 0
  · rw [show (((p.length : Nat) : Int) == 0) = true by simpa using c, cnd_tt]
    exact ⟨_, _, rfl, hp.1, hg1⟩
  rw [show (((p.length : Nat) : Int) == 0) = false by simpa using c, cnd_ff]
  obtain ⟨k, g2, e2, hk, hg2⟩ := sl1Below_g hg1 (n := (p.length : Int)) (by omega)
  rw [e2, bnd_some]
  have hk1 := hk.2.1 (by omega)
  have hk0 := hk.1
  obtain ⟨m, g3, e3, _, hg3⟩ := sl1Below_g hg2 (n := 10) (by omega)
  simp only
  rw [e3, bnd_some]
  obtain ⟨v, g4, e4, hv, hg4⟩ := sl1Int_g hg3 (l := [4, 60, 61, 9223372036854775807]) (by simp) (by simp) (P := fun v => Rg v) (fun v hv => by
    simp only [List.mem_cons, List.not_mem_nil, or_false] at hv
    rcases hv with rfl | rfl | rfl | rfl <;> exact ⟨by decide, by decide⟩)
  obtain ⟨l2, g5, e5, _, hg5⟩ := sl5Any_g hg3
  have hlt : k.toNat < p.length := by omega
  have hx := List.getElem?_eq_getElem hlt
  generalize p[k.toNat] = x at hx
  have hxm := List.mem_of_getElem? hx
  have hx1 := hp.2 x hxm
  have hx2 := hp.1.2 x hxm
  simp only [e4, e5, bnd_some]
  rw [cnd_if]
  split
  · rw [ifA_pos (by omega), n_pv, getN_at hx]
    exact ⟨_, _, rfl, pl_set2 hp.1 hx ⟨hx2.1, hx2.2.1⟩ hv, hg4⟩
  rw [cnd_if]
  split
  · rw [ifA_pos (by omega), n_pv, getN_at hx, ifA_pos (by omega), ifA_pos (by omega), n_pv, getN_at hx]
    refine ⟨_, _, rfl, pl_set2 hp.1 hx ⟨?_, fun y hy => hx2.2.1 y (List.mem_of_mem_take (List.mem_of_mem_drop hy))⟩ hx2.2.2, hg3⟩
    rw [List.length_drop, List.length_take]
    have := hx2.1
    omega
  rw [cnd_if]
  split
  · exact ⟨_, _, rfl, hp.1, hg5⟩
  rw [cnd_if]
  split
  · rw [ifA_pos (by omega)]
    refine ⟨_, _, rfl, ⟨?_, fun y hy => hp.1.2 y (List.mem_of_mem_take (List.mem_of_mem_drop hy))⟩, hg3⟩
    rw [List.length_drop, List.length_take]
    omega
  · exact ⟨_, _, rfl, hp.1, hg3⟩
theorem sDrawFormatPlan_g (code : List Int) (h : code.length ≤ 1048576) : ∃ p, S_sDrawFormatPlan code = some p ∧ Pl p := by
  unfold S_sDrawFormatPlan S_sDrawIsPlan
  simp only [rws_y, rws_path, rws_part_ss, eta_L1Cur]
  obtain ⟨g, e, hg⟩ := sl1New_g code h
  rw [e, bnd_some]
  obtain ⟨x, g1, e1, hx, _⟩ := sl8Any_g hg
  rw [e1]
  exact ⟨_, rfl, hx⟩
theorem sDrawFormatLights_g (code : List Int) (h : code.length ≤ 1048576) : ∃ l, S_sDrawFormatLights code = some l ∧ l.length ≤ 100 := by
  unfold S_sDrawFormatLights
  simp only [rws_y, rws_i, eta_L1Cur, len_i]
  obtain ⟨g, e, hg⟩ := sl1New_g code h
  rw [e, bnd_some]
  obtain ⟨m, g1, e1, hm, hg1⟩ := sl1Below_g hg (n := 7) (by omega)
  simp only
  rw [e1, bnd_some]
  have hm1 := hm.2.1 (by omega)
  have hm0 := hm.1
  refine iter_ex (fun v => v.1.2.2.toNat) (fun v => 0 ≤ v.1.2.2 ∧ (v.1.2.1.length : Int) + v.1.2.2 ≤ 7 ∧ CurOk v.2) ?_ NN _ ⟨hm0, by show (0 : Int) + m ≤ 7; omega, hg1⟩ (NN_big (by show m.toNat ≤ _; omega))
  rintro rec ⟨⟨u, l, i⟩, g2⟩ ⟨hi, hl, hg2⟩ hrec
  simp only at hi hl hg2 hrec ⊢
  by_cases c : i > 0
  · rw [decide_eq_true c, cnd_tt]
    obtain ⟨k, g3, e3, _, hg3⟩ := sl1Below_g hg2 (n := 5) (by omega)
    rw [e3, bnd_some, ifA_pos (by simp; omega), rws_app_i']
    have hW : W (i - 1) = i - 1 := W_id (by omega) (by omega)
    refine hrec _ ⟨by show 0 ≤ W (i - 1); omega, ?_, hg3⟩ (by show (W (i - 1)).toNat < i.toNat; omega)
    show ((l ++ [W (k - 1)]).length : Int) + W (i - 1) ≤ 7
    rw [List.length_append]
    simp
    omega
  · rw [decide_eq_false c, cnd_ff]
    exact ⟨_, rfl, by omega⟩
theorem goO_rg (a : Path) : ∀ (r : List (Path × Int)) (o : Int), Rg o → (∀ x ∈ r, Rg x.1.id) → Rg (goO a r o)
  | [], _, h, _ => h
  | x :: r, o, h, hr => by
    unfold goO
    refine goO_rg a r _ ?_ fun y hy => hr y (List.mem_cons_of_mem _ hy)
    split
    · exact hr x (List.mem_cons_self ..)
    · exact h
theorem rep_ok {t : Town} {p s : Int} (hp : Rg p) : OkReport (report t p s).1 := by
  cases h : (report t p s).2 with
  | false =>
    have e : (report t p s).1 = zeroRep := by
      unfold report at h ⊢
      split
      · rfl
      · rename_i hc
        rw [if_neg hc] at h
        split
        · rfl
        · rename_i e he
          rw [he] at h
          cases h
    rw [e]
    exact ⟨⟨by decide, by decide⟩, ⟨by decide, by decide⟩, ⟨by decide, by decide⟩, ⟨by decide, by decide⟩, ⟨by decide, by decide⟩⟩
  | true =>
    obtain ⟨ht, m, q, q2, q1, hq, i, e, x, he, e1, e3, e2, hsec, hx, h0, h2, hn, hr⟩ := report_of h
    rw [hr]
    simp only [isTown, Bool.and_eq_true, decide_eq_true_eq, inR] at ht
    obtain ⟨⟨⟨⟨⟨⟨⟨⟨⟨⟨t1, t2⟩, t3⟩, t4⟩, t5⟩, t6⟩, t7⟩, t8⟩, t9⟩, t10⟩, t11⟩ := ht
    have hl := isRecord_len t5 e he
    have hpaths : arePaths t.paths = true := by
      unfold isControl at t1
      simp only [Bool.and_eq_true] at t1
      exact together_are t1.1.1.1.2
    refine ⟨hp, (show Rg s from ⟨by omega, by omega⟩), (show Rg x from ⟨by omega, by omega⟩), ?_, goO_rg q _ _ (show Rg 0 from ⟨by decide, by decide⟩) fun y hy => ?_⟩
    · show Rg (greenSince t.record m s)
      unfold greenSince
      split
      · exact W_rg' _
      · exact (show Rg (-1) from ⟨by decide, by decide⟩)
    · have hm : y.1 ∈ t.paths := (List.of_mem_zip hy).1
      have := are_ids hpaths (find_own' hm)
      exact ⟨by omega, by omega⟩
theorem sDrawFormatReport_g (code : List Int) (h : code.length ≤ 1048576) : ∃ r, S_sDrawFormatReport code = some r ∧ OkReport r := by
  unfold S_sDrawFormatReport S_sDrawIsReport S_sDrawReportOf
  simp only [rws_y, rC_v, rT_ss, rT_so, rT_oo, rT_uu, eta_L1Cur]
  obtain ⟨g, e, hg⟩ := sl1New_g code h
  rw [e, bnd_some]
  obtain ⟨t, g1, e1, ht, hg1⟩ := sl34Draw_g hg
  simp only
  rw [e1, bnd_some]
  obtain ⟨p, g2, e2, hp, hg2⟩ := sl1Below_g hg1 (n := 9) (by omega)
  simp only
  rw [e2, bnd_some]
  obtain ⟨q, g3, e3, _, hg3⟩ := sl1Below_g hg2 (n := 30) (by omega)
  simp only
  rw [e3, bnd_some]
  obtain ⟨s, g4, e4, _, _⟩ := sl1Int_g hg3 (l := [t.now, 0, W (t.now - 3), W (t.now + 1), q]) (by simp) (by simp) (P := fun _ => True) (fun _ _ => trivial)
  simp only
  rw [e4, bnd_some, bnd_some]
  simp only [sReportOf_v t p s ht, bnd_some]
  have hp1 := hp.2.1 (by omega)
  have hr := rep_ok (t := t) (p := p) (s := s) (show Rg p from ⟨by have := hp.1; omega, by omega⟩)
  obtain ⟨b, g5, e5, _, hg5⟩ := sl1Once_g hg (n := 2) (by omega)
  rw [e5, bnd_some]
  cases b with
  | false => exact ⟨_, rfl, hr⟩
  | true =>
    rw [cnd_tt]
    obtain ⟨k, g6, e6, hk, _⟩ := sl1Below_g hg5 (n := 3) (by omega)
    simp only
    rw [e6]
    have hk1 := hk.2.1 (by omega)
    exact ⟨_, rfl, hr.1, hr.2.1, (show Rg k from ⟨by have := hk.1; omega, by omega⟩), hr.2.2.2⟩
theorem newTown_rg (l : List Path) : Rg (newTown l).1.now ∧ Rg (newTown l).1.books := by
  have h : Rg 0 := ⟨by decide, by decide⟩
  unfold newTown
  split
  · exact ⟨h, h⟩
  · split <;> exact ⟨h, h⟩
theorem sl33Draw_r {g : L1Cur} (h : CurOk g) : Gives (S_sl33Draw g) fun t => (SmTown t ∧ t.paths.length ≤ 7 ∧ t.lamps.length ≤ 14) ∧ Rg t.now ∧ Rg t.books := by
  unfold S_sl33Draw
  simp only [rC_v, rT_ss, rT_so, rT_oo, rT_uu, rws_y, rws_path, rws_want, rws_lamp, rws_note_oo, eta_L1Cur]
  obtain ⟨l, g1, e1, hl, hg1⟩ := sl5Draw_g h
  rw [e1, bnd_some]
  have hs := drawn_sm hl.1
  simp only [sNewTown_v l hs, bnd_some]
  have hp := newTown_paths l
  have hl7 := hl.1.1
  obtain ⟨x, g2, e2, hx, hg2⟩ := sl19Lamps_g hg1 (l := (newTown l).1.paths) (by omega) (rare := 40) (by omega)
  rw [e2, bnd_some]
  obtain ⟨h0, h1, h2, h3, h4⟩ := newTown_sm hs
  exact ⟨_, _, rfl, ⟨⟨⟨h0, h1, h2, by show x.length ≤ _; omega, h4⟩, by show (newTown l).1.paths.length ≤ 7; omega, by show x.length ≤ 14; omega⟩, newTown_rg l⟩, hg2⟩
theorem sl33Any_r {g : L1Cur} (h : CurOk g) : Gives (S_sl33Any g) fun t => SmTown t ∧ Rg t.now ∧ Rg t.books := by
  unfold S_sl33Any
  simp only [rC_v, rT_ss, rT_so, rT_oo, rT_uu, rws_y, rws_path, rws_i, rws_want, rws_lamp, rws_note_oo, eta_L1Cur, eta_Control, len_want]
  obtain ⟨t, g1, e1, ⟨⟨ht, hp7, hl14⟩, hn, hb⟩, hg1⟩ := sl33Draw_r h
  rw [e1, bnd_some]
  obtain ⟨h0, h1, h2, h3, h4⟩ := ht
  have h0' := h0
  unfold Sm at h0'
  obtain ⟨x, g2, e2, hx, hg2⟩ := sl14Draw_g hg1 h0
  dsimp only
  rw [e2, bnd_some]
  obtain ⟨w, g3, e3, hw, hg3⟩ := sl15Wants_g hg2 h0
  dsimp only
  rw [e3, bnd_some]
  have hws : Sm w := by unfold Sm; omega
  obtain ⟨p, g4, e4, _, hg4⟩ := sl16Prio_g hg3 h0
  dsimp only
  rw [e4, bnd_some]
  obtain ⟨k, g5, e5, _, hg5⟩ := sl1Below_g hg4 (n := 12) (by omega)
  dsimp only
  rw [e5, bnd_some]
  obtain ⟨a, g6, e6, ha, hg6⟩ := sl1Int_g hg5 (l := [Neg.neg 1, 1000, 1001]) (by simp) (by simp) (P := fun v => Rg v) (fun v hv => by
    simp only [List.mem_cons, List.not_mem_nil, or_false] at hv
    rcases hv with rfl | rfl | rfl <;> exact ⟨by decide, by decide⟩)
  obtain ⟨b, g7, e7, hbb, hg7⟩ := sl1Int_g hg5 (l := [Neg.neg 1, 1000000, 1000001]) (by simp) (by simp) (P := fun v => Rg v) (fun v hv => by
    simp only [List.mem_cons, List.not_mem_nil, or_false] at hv
    rcases hv with rfl | rfl | rfl <;> exact ⟨by decide, by decide⟩)
  obtain ⟨r, g8, e8, hr, hg8⟩ := sl27Any_g hg5
  simp only [e6, e7, e8, bnd_some, cnd_if, appe_want1]
  split
  · exact gives_some ⟨⟨h0, ⟨hx.1, hx.2⟩, hws, h3, h4⟩, hn, hb⟩ hg5
  split
  · rw [ifA_pos (by simp; omega)]
    exact gives_some ⟨⟨h0, ⟨hx.1, hx.2⟩, by show Sm (w ++ [_]); unfold Sm; simp; omega, h3, h4⟩, hn, hb⟩ hg5
  split
  · exact gives_some ⟨⟨h0, ⟨hx.1, hx.2⟩, hws, h3, h4⟩, hn, hb⟩ hg5
  split
  · obtain ⟨y, g9, e9, hy, hg9⟩ := sl19Lamps_g hg5 (l := t.paths) (by omega) (rare := 3) (by omega)
    rw [e9, bnd_some]
    exact gives_some ⟨⟨h0, ⟨hx.1, hx.2⟩, hws, by show Sm y; unfold Sm; omega, h4⟩, hn, hb⟩ hg9
  split
  · exact gives_some ⟨⟨h0, ⟨hx.1, hx.2⟩, hws, h3, h4⟩, hn, hb⟩ hg5
  split
  · exact gives_some ⟨⟨h0, ⟨hx.1, hx.2⟩, hws, h3, hr⟩, hn, hb⟩ hg8
  split
  · exact gives_some ⟨⟨h0, ⟨hx.1, hx.2⟩, hws, h3, h4⟩, hn, ha⟩ hg6
  split
  · exact gives_some ⟨⟨h0, ⟨hx.1, hx.2⟩, hws, h3, h4⟩, hbb, hb⟩ hg7
  · exact gives_some ⟨⟨h0, ⟨hx.1, hx.2⟩, hws, h3, h4⟩, hn, hb⟩ hg5
theorem sDrawFormatTown_g (code : List Int) (h : code.length ≤ 1048576) : ∃ t, S_sDrawFormatTown code = some t ∧ SmTown t ∧ Rg t.now ∧ Rg t.books := by
  unfold S_sDrawFormatTown S_sDrawIsTown
  simp only [rT_ss, rT_so, rT_oo, rT_uu, rws_y, eta_L1Cur]
  obtain ⟨g, e, hg⟩ := sl1New_g code h
  rw [e, bnd_some]
  obtain ⟨t, g1, e1, ht, _⟩ := sl33Any_r hg
  rw [e1, bnd_some]
  exact ⟨t, rfl, ht⟩
theorem stagesOf_rg (l : List Path) : ∀ s ∈ stagesOf l, ∀ y ∈ s, Rg y := by
  unfold stagesOf
  split
  · rename_i h
    intro s hs y hy
    rcases search_mem l l [] [] s hs with h1 | h1
    · cases h1
    · have hf := h1.2.1
      unfold fullStage at hf
      rw [Bool.and_eq_true] at hf
      have := are_ids h (together_find hf.2 y hy)
      exact ⟨by omega, by omega⟩
  · intro s hs; cases hs
def RgC (x : Control) : Prop := (∀ y ∈ x.stage, Rg y) ∧ Rg x.since ∧ (∀ y ∈ x.next, Rg y) ∧ Rg x.left
theorem rg_c {n : Int} (h1 : -1000000000 ≤ n) (h2 : n ≤ 1000000000) : Rg n := ⟨by omega, by omega⟩
theorem rg_0 : Rg 0 := rg_c (by omega) (by omega)
theorem rg_nil : ∀ y ∈ ([] : List Int), Rg y := fun y hy => by cases hy
theorem askStage_rg {l : List Path} {x : Control} {s : List Int} (hx : RgC x) (hs : ∀ y ∈ s, Rg y) : RgC (askStage l x s).1 := by
  unfold askStage
  split
  · simp only
    split
    · exact ⟨hs, rg_0, rg_nil, rg_0⟩
    · have := clear_le l x.stage s
      exact ⟨hx.1, hx.2.1, hs, (rg_c (by omega) (by omega) : Rg (clearBetween l x.stage s))⟩
  · exact hx
theorem tick_rg {l : List Path} {x : Control} (hx : RgC x) : RgC (tick l x) := by
  unfold tick
  split
  · rename_i h
    obtain ⟨h1, h2⟩ := control_left h
    split
    · refine ⟨hx.1, ?_, hx.2.2.1, hx.2.2.2⟩
      show Rg (if x.since < 1000000 then x.since + 1 else 1000000)
      split
      · exact rg_c (by omega) (by omega)
      · exact rg_c (by omega) (by omega)
    · rename_i hn
      have := h2 (by simpa using hn)
      split
      · exact ⟨hx.1, hx.2.1, hx.2.2.1, rg_c (by show _ ≤ x.left - 1; omega) (by show x.left - 1 ≤ _; omega)⟩
      · exact ⟨hx.2.2.1, rg_0, rg_nil, rg_0⟩
  · exact hx
theorem sl14Draw_r {g : L1Cur} (h : CurOk g) {l : List Path} (hl : Sm l) : Gives (S_sl14Draw l g) fun x => SmControl x ∧ RgC x := by
  obtain ⟨n40, hs⟩ := stagesOf_sm l
  have hrs := stagesOf_rg l
  have r0 := rg_0
  unfold S_sl14Draw
  simp only [rws_y, rws_path, eta_L1Cur, sStagesOf_v l hl, bnd_some, len_il, geti_il_so, rC_v, eta_Control]
  by_cases c : stagesOf l = []
  · rw [c]
    refine gives_some ⟨by constructor <;> (unfold Sm; simp), fun y hy => ?_, r0, rg_nil, r0⟩ h
    rw [List.mem_singleton.1 hy]
    exact rg_c (by omega) (by omega)
  have hp : 0 < (stagesOf l).length := List.length_pos_iff.2 c
  rw [show (((stagesOf l).length : Int) == 0) = false by simp; omega, cnd_ff]
  obtain ⟨r, g1, e1, hr, hg1⟩ := sl1Below_g h (n := ((stagesOf l).length : Int)) (by omega)
  rw [e1, bnd_some]
  obtain ⟨s, hsm, hk⟩ := stage_at hr.1 (hr.2.1 (by omega))
  have hsl := hs s hsm
  have hss : Sm s := by unfold Sm; omega
  have h0 : Sm ([] : List Int) := by unfold Sm; simp
  dsimp only
  rw [hk, ifA_pos (by simp; omega)]
  obtain ⟨k, g2, e2, hk2', hg2⟩ := sl1Below_g hg1 (n := 12) (by omega)
  rw [e2, bnd_some]
  have hkr : Rg k := by
    have := hk2'.1
    have := hk2'.2.1 (by omega)
    exact rg_c (by omega) (by omega)
  obtain ⟨b, g3, e3, _, hg3⟩ := sl1Once_g hg2 (n := 3) (by omega)
  rw [e3, bnd_some]
  simp only [clrs_i, rws_i]
  cases b with
  | false => rw [cnd_ff]; exact gives_some ⟨⟨hss, h0⟩, hrs s hsm, hkr, rg_nil, r0⟩ hg3
  | true =>
    rw [cnd_tt]
    obtain ⟨q, g4, e4, hq, hg4⟩ := sl1Below_g hg3 (n := ((stagesOf l).length : Int)) (by omega)
    rw [e4, bnd_some]
    obtain ⟨s2, hsm2, hk2⟩ := stage_at hq.1 (hq.2.1 (by omega))
    have hss2 : Sm s2 := by have := hs s2 hsm2; unfold Sm; omega
    dsimp only
    rw [hk2]
    have hx : SmControl ⟨s, k, [], 0⟩ := ⟨hss, h0⟩
    have hxr : RgC ⟨s, k, [], 0⟩ := ⟨hrs s hsm, hkr, rg_nil, r0⟩
    rw [sAskStage_v l _ s2 hl hx hss2, bnd_some]
    obtain ⟨m, g5, e5, hm, hg5⟩ := sl1Below_g hg4 (n := 3) (by omega)
    rw [e5, bnd_some]
    have hm1 := hm.2.1 (by omega)
    have hm0 := hm.1
    refine gives_run (fun j (x : Control) g => ((l, (m - (j : Int))), ((⟨[], 0, [], 0⟩ : Control), x), g)) m.toNat (fun _ x => SmControl x ∧ RgC x) (askStage l ⟨s, k, [], 0⟩ s2).1 g5 (by simp) (by omega) ⟨askStage_sm hx hss2, askStage_rg hxr (hrs s2 hsm2)⟩ hg5 ?_ ?_
    · intro rec x g hJ hg
      rw [show decide (m - ((m.toNat : Nat) : Int) > 0) = false from decide_eq_false (by omega), cnd_ff]
      exact gives_some hJ hg
    · intro rec j x g hj hJ hg hrec
      rw [show decide (m - (j : Int) > 0) = true from decide_eq_true (by omega), cnd_tt]
      simp only [sTickControl_v l x hl hJ.1, bnd_some, rC_v, eta_Control]
      rw [show W (m - (j : Int) - 1) = m - ((j + 1 : Nat) : Int) by rw [W_id (by omega) (by omega)]; omega]
      exact hrec _ _ ⟨tick_sm hJ.1, tick_rg hJ.2⟩ hg
theorem sl14Any_r {g : L1Cur} (h : CurOk g) : Gives (S_sl14Any g) fun x => SmControl x.2 ∧ RgC x.2 := by
  unfold S_sl14Any
  simp only [rws_y, rws_path, rws_i, rC_v, eta_L1Cur, eta_Control]
  obtain ⟨l, g1, e1, hl, hg1⟩ := sl5Any_g h
  rw [e1, bnd_some]
  have hl : l.length ≤ 7 := hl
  obtain ⟨c, g2, e2, ⟨hc, hcr⟩, hg2⟩ := sl14Draw_r hg1 (l := l) (by unfold Sm; omega)
  rw [e2, bnd_some]
  obtain ⟨k, g3, e3, _, hg3⟩ := sl1Below_g hg2 (n := 10) (by omega)
  rw [e3, bnd_some]
  obtain ⟨a, g4, e4, ha, hg4⟩ := sl1Int_g hg3 (l := [Neg.neg 1, 1000000, 1000001]) (by simp) (by simp) (P := fun v => Rg v) (fun v hv => by
    simp only [List.mem_cons, List.not_mem_nil, or_false] at hv
    rcases hv with rfl | rfl | rfl <;> exact ⟨by decide, by decide⟩)
  obtain ⟨b, g5, e5, hb, hg5⟩ := sl1Int_g hg3 (l := [Neg.neg 1, 1, 9]) (by simp) (by simp) (P := fun v => Rg v) (fun v hv => by
    simp only [List.mem_cons, List.not_mem_nil, or_false] at hv
    rcases hv with rfl | rfl | rfl <;> exact ⟨by decide, by decide⟩)
  simp only [e4, e5, bnd_some, cnd_if]
  obtain ⟨r1, r2, r3, r4⟩ := hcr
  split
  · exact ⟨_, _, rfl, ⟨⟨hc.1, hc.2⟩, r1, ha, r3, r4⟩, hg4⟩
  split
  · exact ⟨_, _, rfl, ⟨⟨hc.1, hc.2⟩, r1, r2, r3, hb⟩, hg5⟩
  split
  · refine ⟨_, _, rfl, ⟨⟨hc.1, sm_one 1⟩, r1, r2, fun y hy => ?_, r4⟩, hg3⟩
    rw [List.mem_singleton.1 hy]
    exact rg_c (by omega) (by omega)
  split
  · exact ⟨_, _, rfl, ⟨⟨sm_nil, hc.2⟩, rg_nil, r2, r3, r4⟩, hg3⟩
  · exact ⟨_, _, rfl, ⟨⟨hc.1, hc.2⟩, r1, r2, r3, r4⟩, hg3⟩
theorem sm_max {α : Type} {l : List α} (h : Sm l) : l.length ≤ maxLen := by unfold Sm at h; unfold maxLen; omega
theorem sDrawFormatControl_g (code : List Int) (h : code.length ≤ 1048576) : ∃ x, S_sDrawFormatControl code = some x ∧ SmControl x ∧ OkControl x := by
  unfold S_sDrawFormatControl S_sDrawIsControl
  simp only [rws_y, rws_path, rC_v, eta_L1Cur, eta_Control]
  obtain ⟨g, e, hg⟩ := sl1New_g code h
  rw [e, bnd_some]
  obtain ⟨x, g1, e1, ⟨hx, r1, r2, r3, r4⟩, _⟩ := sl14Any_r hg
  rw [e1]
  exact ⟨_, rfl, hx, ⟨sm_max hx.1, r1⟩, r2, ⟨sm_max hx.2, r3⟩, r4⟩
theorem getb_is {β : Type} {s : ByteArray} {k : Nat} {c : UInt8} (h : s.data.toList[k]? = some c) (K : Int → Option β) : getb s (k : Int) K = K (c.toNat : Int) := by
  unfold getb
  rw [if_pos (by omega), Int.toNat_natCast, h]
theorem byte_eq {c : UInt8} (n : Int) (hn : (c.toNat : Int) = n) (x : UInt8) : ((x.toNat : Int) == n) = decide (x = c) := by
  subst hn
  by_cases h : x = c
  · subst h; simp
  · have : x.toNat ≠ c.toNat := fun e => h (UInt8.toNat_inj.1 e)
    rw [decide_eq_false h]
    exact beq_eq_false_iff_ne.2 fun e => this (by omega)
theorem formatPlan_small {p : List Part} (h : Pl p) : (formatPlan p).size ≤ 100000 := by
  obtain ⟨h1, h2⟩ := h
  have hr : ∀ y ∈ p, (partText y).size ≤ 500 := fun y hy => by
    obtain ⟨a, b, c⟩ := h2 y hy
    have := partText_size (x := y) (by show Sm y.stage; unfold Sm; omega) ⟨⟨by unfold maxLen; omega, b⟩, c⟩
    omega
  have h3 := joined_size (p.map partText) (bs [32, 124, 32])
  have h4 := tot_const p partText (bs [32, 124, 32]) 500 hr
  have h5 : p.length * (500 + (bs [32, 124, 32]).size) ≤ 6 * (500 + (bs [32, 124, 32]).size) := Nat.mul_le_mul_right _ h1
  have h6 : (bs [32, 124, 32]).size = 3 := rfl
  unfold formatPlan
  omega
theorem pl_lens : ∀ {p : List Part}, (∀ x ∈ p, x.stage.length ≤ 20) → lensP p ≤ 20 * p.length
  | [], _ => by simp [lensP]
  | x :: p, h => by
    rw [lensP_cons]
    have := pl_lens (p := p) fun y hy => h y (List.mem_cons_of_mem _ hy)
    have := h x (List.mem_cons_self ..)
    simp only [List.length_cons]
    omega
theorem lFnViews_s (a : List Int) (ha : a.length ≤ 1048576) : S_lFnViews a = some true := by
  obtain ⟨l, el, hl⟩ := sDrawFormatLights_g a ha
  obtain ⟨p, ep, hp⟩ := sDrawFormatPlan_g a ha
  obtain ⟨r, er, hr⟩ := sDrawFormatReport_g a ha
  obtain ⟨t, et, ht, hn, hb⟩ := sDrawFormatTown_g a ha
  obtain ⟨x, ex, hx, hxr⟩ := sDrawFormatControl_g a ha
  obtain ⟨v, ev, hv⟩ := iFormatControl_ne x hx hxr
  have hls : Sm l := by unfold Sm; omega
  have hps : Sm p ∧ ∀ y ∈ p, SmPart y := ⟨by have := hp.1; unfold Sm; omega, fun y hy => by have := (hp.2 y hy).1; show Sm y.stage; unfold Sm; omega⟩
  have hpr : ∀ y ∈ p, OkPart y := fun y hy => ⟨⟨by have := (hp.2 y hy).1; unfold maxLen; omega, (hp.2 y hy).2.1⟩, (hp.2 y hy).2.2⟩
  have hpl := pl_lens fun y hy => (hp.2 y hy).1
  have hp6 := hp.1
  have hsz := formatPlan_small hp
  have hrs := report_size hr
  obtain ⟨etown, hts⟩ := iFormatTown_v t ht hn hb
  have hcp := cb_plan p
  have hcr := cb_report r
  have hct := cb_town t
  have hsize := lights_size l
  have hnum : S_iFormatNumbers [] = some (ByteArray.mk (List.toArray [45])) := iFormatNumbers_v [] sm_nil rg_nil
  have hpath : S_iFormatPaths [] = some (ByteArray.mk (List.toArray [45])) := iFormatPaths_v [] (by unfold Sm; simp) (fun y hy => by cases hy)
  have hve : decide (v = ByteArray.mk (List.toArray [])) = false := decide_eq_false fun e => hv (by rw [e]; rfl)
  have key58 := byte_eq (c := 58) 58 rfl
  have key32 := byte_eq (c := 32) 32 rfl
  unfold S_lFnViews
  simp only [rws_y, rws_i, len_i, lbig_v, bnd_some, el, iFormatLights_v l hls, beq_ba]
  rw [decide_eq_false (by omega), cnd_ff]
  by_cases c : l = []
  case' pos =>
    subst c
    simp only [List.length_nil]
    rw [show decide (((0 : Nat) : Int) > 0) = false from rfl, cnd_ff, show (((0 : Nat) : Int) == 0) = true from rfl, cnd_tt]
    rw [show decide (formatLights [] = ByteArray.mk (List.toArray [45])) = true from decide_eq_true rfl, Bool.not_true, cnd_ff]
  case' neg =>
    have hpos : 0 < l.length := List.length_pos_iff.2 c
    rw [if_neg (by omega)] at hsize
    rw [decide_eq_true (by omega), cnd_tt, hsize]
    rw [show (((l.length : Nat) : Int) != ((l.length : Nat) : Int)) = false from by simp, cnd_ff]
    rw [show (((l.length : Nat) : Int) == 0) = false from by simp; omega, cnd_ff]
  all_goals
    simp only [ep, bnd_some, rws_part_ss, iFormatPlan_v p hps hpr (by omega)]
    refine (bytes_loop (formatPlan p) 58 (by omega) (fun k n => (a, (p, (formatPlan p, (n, (k : Int)))))) (fun n => some (n == (p.length : Int))) rfl ?_ ?_).trans (by rw [hcp, beq_self_eq_true])
    · intro rec n
      simp only []
      rw [decide_eq_false (by omega), cnd_ff]
      simp only [er, bnd_some, iFormatReport_v r hr]
      refine (bytes_loop (reportText r) 32 (by omega) (fun k m => (a, (p, (n, (reportText r, (m, (k : Int))))))) (fun m => some (n == (p.length : Int) && m == 4)) rfl ?_ ?_).trans (by rw [hcr]; simp)
      · intro rec m
        simp only []
        rw [decide_eq_false (by omega), cnd_ff]
        simp only [et, bnd_some, rT_ss, rT_so, rT_oo, rT_uu, etown]
        refine (bytes_loop (townText t) 32 (by omega) (fun k q => (a, (p, (n, (m, (townText t, (q, (k : Int)))))))) (fun q => some (n == (p.length : Int) && m == 4 && q == 5)) rfl ?_ ?_).trans (by rw [hct]; simp)
        · intro rec q
          simp only []
          rw [decide_eq_false (by omega), cnd_ff]
          simp only [len_part, hnum, hpath, ex, ev, bnd_some, rC_v, hve, cnd_if, decide_true, if_true, Bool.not_false]
          cases (n == (p.length : Int)) <;> cases (m == 4) <;> cases (q == 5) <;> rfl
        · intro rec k z q hz hk hn
          simp only []
          rw [decide_eq_true (by omega), cnd_tt, getb_is hz, key32]
          simp only [W_n1 (show k ≤ 9223372036854775806 by omega), W_n1 (show q ≤ 9223372036854775806 by omega)]
          rw [cnd_if]
          by_cases c : z = 32 <;> simp [c]
      · intro rec k z m hz hk hn
        simp only []
        rw [decide_eq_true (by omega), cnd_tt, getb_is hz, key32]
        simp only [W_n1 (show k ≤ 9223372036854775806 by omega), W_n1 (show m ≤ 9223372036854775806 by omega)]
        rw [cnd_if]
        by_cases c : z = 32 <;> simp [c]
    · intro rec k z n hz hk hn
      simp only []
      rw [decide_eq_true (by omega), cnd_tt, getb_is hz, key58]
      simp only [W_n1 (show k ≤ 9223372036854775806 by omega), W_n1 (show n ≤ 9223372036854775806 by omega)]
      rw [cnd_if]
      by_cases c : z = 58 <;> simp [c]
theorem lFnViews_v (a : List Int) : S_lFnViews a = some true := by
  by_cases ha : a.length ≤ 1048576
  · exact lFnViews_s a ha
  · unfold S_lFnViews
    simp only [rws_y, lbig_v, bnd_some]
    rw [decide_eq_true (by omega), cnd_tt]
end Go.Sh
