/- Records: hashes, seals, the share of time that a light was open. -/
import Derived.Test.YtdeoffkhnkdhmaaP2
set_option linter.all false
namespace Go.Sh
open Go.Fx

theorem tmod_pos {a m : Int} (h : 0 ≤ a) : Int.tmod a m = a % m := Int.tmod_eq_emod_of_nonneg h
theorem sl1In_t {x a b : Int} (h : a ≤ x) (h' : x ≤ b) : S_sl1In x a b = some true := by rw [sl1In_v]; simp [h, h']
theorem iInRange_t {x a b : Int} (h : a ≤ x) (h' : x ≤ b) : S_iInRange x a b = some true := by rw [iInRange_v]; simp [h, h']
theorem tmod_cases (n : Int) {m : Int} (h : 0 < m) : (0 ≤ Int.tmod n m ∧ Int.tmod n m < m ∧ Int.tmod n m = n % m) ∨ (Int.tmod n m < 0 ∧ -m < Int.tmod n m ∧ Int.tmod n m + m = n % m) := by
  have h1 := Int.tmod_lt_of_pos n h
  have h2 := Int.lt_tmod_of_pos n h
  have h3 : n = m * Int.tdiv n m + Int.tmod n m := by have := Int.mul_tdiv_add_tmod n m; omega
  have h4 : n % m = Int.tmod n m % m := by
    conv => lhs; rw [h3]
    rw [Int.add_comm, Int.add_mul_emod_self_left]
  rcases (by omega : Int.tmod n m < 0 ∨ 0 ≤ Int.tmod n m) with hn | hp
  · right
    refine ⟨hn, h2, ?_⟩
    rw [h4, ← Int.add_emod_right, Int.emod_eq_of_lt (by omega) (by omega)]
  · left
    exact ⟨hp, h1, by rw [h4, Int.emod_eq_of_lt hp h1]⟩
theorem sMod_v (n m : Int) (h : 1 ≤ m) (h' : m ≤ 1000000000000) : S_sMod n m = some (n % m) := by
  unfold S_sMod
  rw [sl1In_t h h', bnd_some]
  rw [show (!true) = false from rfl, cnd_ff, ifA_pos (by omega), ifA_pos (by omega)]
  rcases tmod_cases n (show 0 < m by omega) with ⟨a, b, c⟩ | ⟨a, b, c⟩
  · rw [W_id (by omega) (by omega), tmod_pos (by omega), c, Int.add_emod_right, Int.emod_emod_of_dvd _ (Int.dvd_refl m)]
  · rw [W_id (by omega) (by omega), tmod_pos (by omega), c, Int.emod_emod_of_dvd _ (Int.dvd_refl m)]
theorem iMod_v (n m : Int) (h : 1 ≤ m) (h' : m ≤ 1000000000000) : S_iMod n m = some (n % m) := by
  unfold S_iMod
  rw [iInRange_t h h', bnd_some]
  rw [show (!true) = false from rfl, cnd_ff, ifA_pos (by omega), cnd_if]
  rcases tmod_cases n (show 0 < m by omega) with ⟨a, b, c⟩ | ⟨a, b, c⟩
  · rw [if_neg (by simp; omega), c]
  · rw [if_pos (by simp; omega), W_id (by omega) (by omega), c]
def mix (a v : Int) : Int := Int.tmod (W (W (W (a * 1000003) + v % 2147483647) + 13)) 2147483647
def hash (l : List Int) : Int := l.foldl mix 11
theorem ifold_v (a v : Int) : S_ifold a v = some (mix a v) := by
  unfold S_ifold mix
  rw [iMod_v _ _ (by decide) (by decide)]
  rfl
theorem sHash_v (l : List Int) (h : l.length ≤ 2097152) : S_sHash l = some (hash l) := by
  unfold S_sHash hash
  simp
  refine (iter_list0 l (by omega) (fun k n => (l, n, (k : Int))) 11 (fun s _ n => some (s.foldl mix n)) rfl ?_ ?_).trans rfl
  · intro rec n
    simp
  · intro rec k x n hx hk hr
    simp only [Int.natCast_succ] at hr
    simp [hk, getZ_at hx, sMod_v _ 2147483647, W_n1 (show k ≤ 9223372036854775806 by omega)]
    exact hr _
theorem iHash_v (l : List Int) (h : l.length ≤ 2097152) : S_iHash l = some (hash l) := by
  unfold S_iHash hash
  simp
  refine (iter_list0 l (by omega) (fun k n => (n, l, (l.length : Int), (k : Int))) 11 (fun s _ n => some (s.foldl mix n)) rfl ?_ ?_).trans rfl
  · intro rec n
    simp
  · intro rec k x n hx hk hr
    simp only [Int.natCast_succ] at hr
    simp [hk, getZ_at hx, ifold_v, W_n1 (show k ≤ 9223372036854775806 by omega)]
    exact hr _
def sealOf (b s : Int) (l : List Int) : Int := hash (b :: s :: l)
theorem sSealOf_v (b s : Int) (l : List Int) (h : Sm l) : S_sSealOf b s l = some (sealOf b s l) := by
  unfold Sm at h
  unfold S_sSealOf sealOf
  simp
  rw [ifA_pos (by omega), sHash_v _ (by simp; omega)]
  rfl
theorem iSealOf_v (b s : Int) (l : List Int) (h : Sm l) : S_iSealOf b s l = some (sealOf b s l) := by
  unfold Sm at h
  unfold S_iSealOf sealOf
  simp
  rw [ifA_pos (by omega), iHash_v _ (by simp; omega)]
  rfl

theorem sl1In_r (x a b : Int) : S_sl1In x a b = some (inR x a b) := sl1In_v x a b
theorem iInRange_r (x a b : Int) : S_iInRange x a b = some (inR x a b) := iInRange_v x a b
theorem all_loop {α V β : Type} (l : List α) (p : α → Bool) (hl : l.length ≤ 1099511627776) (st : Nat → V) (K no : Option β) {F : (V → Option β) → V → Option β} {v : V} (hv : v = st 0)
    (h0 : ∀ rec, F rec (st l.length) = K)
    (h1 : ∀ rec k x, l[k]? = some x → k < l.length → F rec (st k) = if p x = true then rec (st (k + 1)) else no) : iter F NN v = if l.all p = true then K else no := by
  refine (iter_list0 l (by omega) (fun k (_ : Unit) => st k) () (fun s _ _ => if s.all p = true then K else no) hv ?_ ?_).trans rfl
  · intro rec _
    rw [h0]; simp
  · intro rec k x _ hx hk hr
    rw [h1 rec k x hx hk, List.all_cons]
    cases p x with
    | true => simpa using hr ()
    | false => simp
theorem getZ0 {α β : Type} {l : List α} {x : α} (h : l[0]? = some x) (K : α → Option β) : getZ l 0 K = K x := getZ_at h K

def noteOk (b : Int) (n : Nat) (x : Note) : Bool := inR x.second 0 1000000 && decide (x.lights.length ≤ 12) && decide (x.lights.length = n) && decide (x.sig = sealOf b x.second x.lights) && x.lights.all (fun v => inR v 0 2)
def later (pv : Option Int) (s : Int) : Bool := match pv with | none => true | some p => decide (p < s)
def goR (n : Nat) : Int → Option Int → List Note → Bool
  | _, _, [] => true
  | b, pv, x :: r => noteOk b n x && later pv x.second && goR n x.sig (some x.second) r
def firstLen (l : List Note) : Nat := match l with | [] => 0 | x :: _ => x.lights.length
def isRecord (l : List Note) : Bool := decide (l.length ≤ 60) && goR (firstLen l) 0 none l
def prevSec (l : List Note) (k : Nat) : Option Int := if k = 0 then none else (l[k - 1]?).map (·.second)
theorem prevSec_succ {l : List Note} {k : Nat} {x : Note} (h : l[k]? = some x) : prevSec l (k + 1) = some x.second := by
  unfold prevSec
  simp [h]
theorem firstLen_at {l : List Note} {x : Note} (h : l[0]? = some x) : firstLen l = x.lights.length := by
  cases l with
  | nil => simp at h
  | cons y t => simp at h; rw [firstLen, h]
theorem mem_at {α : Type} {l : List α} {k : Nat} {x : α} (h : l[k]? = some x) : x ∈ l := List.mem_of_getElem? h

theorem sIsRecord_v (l : List Note) (h : Sm l ∧ ∀ y ∈ l, SmNote y) : S_sIsRecord l = some (isRecord l) := by
  obtain ⟨h, hs⟩ := h
  unfold Sm at h
  unfold S_sIsRecord
  simp
  refine (iter_list0 l (by omega) (fun k b => (l, b, (k : Int))) 0 (fun s k b => some (decide (l.length ≤ 60) && goR (firstLen l) b (prevSec l k) s)) rfl ?_ ?_).trans rfl
  · intro rec b
    simp [goR]
    omega
  · intro rec k x b hx hk hr
    simp only [Int.natCast_succ, prevSec_succ hx] at hr
    have hsx : Sm x.lights := hs x (mem_at hx)
    have hz : l[0]? = some l[0] := List.getElem?_eq_getElem (by omega)
    by_cases h60 : (l.length : Int) ≤ 60
    · have h60' : l.length ≤ 60 := by omega
      simp [hk, h60, h60', getZ_at hx, sSealOf_v b x.second x.lights hsx, sl1In_r, getZ0 hz, goR, noteOk, later, firstLen_at hz]
      cases inR x.second 0 1000000 with
      | false => simp
      | true =>
      simp
      generalize hI : iter (_ : (List Note × Int × Int × Int → Option Bool) → _ → Option Bool) NN (l, sealOf b x.second x.lights, (k : Int), (0 : Int)) = I
      have hI' : I = if x.lights.all (fun v => inR v 0 2) = true then some (goR l[0].lights.length (sealOf b x.second x.lights) (some x.second) (l.drop (k + 1))) else some false := by
        rw [← hI]
        refine all_loop x.lights (fun v => inR v 0 2) (by unfold Sm at hsx; omega) (fun j => (l, sealOf b x.second x.lights, (k : Int), (j : Int))) _ _ rfl ?_ ?_
        · intro rec'
          simp [getZ_at hx, W_n1 (show k ≤ 9223372036854775806 by omega), hr, h60', firstLen_at hz]
        · intro rec' j v hv hj
          have hj2 : j ≤ 9223372036854775806 := by unfold Sm at hsx; omega
          simp [getZ_at hx, getZ_at hv, hj, sl1In_r, W_n1 hj2]
          cases inR v 0 2 <;> simp
      rw [hI']
      clear hI' hI
      generalize x.lights.all (fun v => inR v 0 2) = A
      by_cases c1 : (12 : Int) < (x.lights.length : Int)
      · simp [c1, show ¬ x.lights.length ≤ 12 by omega]
      simp only [c1, decide_false, cnd_ff, show x.lights.length ≤ 12 by omega, decide_true, Bool.true_and]
      by_cases c2 : x.lights.length = l[0].lights.length
      · simp only [c2, bne_self_eq_false, cnd_ff, decide_true, Bool.true_and]
        by_cases c3 : x.sig = sealOf b x.second x.lights
        · simp only [← c3, bne_self_eq_false, cnd_ff, decide_true, Bool.true_and]
          by_cases h0 : k = 0
          · subst h0
            simp [prevSec]
            cases A <;> simp
          · have hz1 : l[k - 1]? = some l[k - 1] := List.getElem?_eq_getElem (by omega)
            have hk1 : W ((k : Int) - 1) = ((k - 1 : Nat) : Int) := by rw [W_id (by omega) (by omega)]; omega
            simp [show 0 < k by omega, hk1, getZ_at hz1]
            rw [show prevSec l k = some (l[k - 1]).second by unfold prevSec; simp [h0, hz1]]
            by_cases c4 : x.second ≤ l[k - 1].second
            · simp [c4, show ¬ l[k - 1].second < x.second by omega]
            · simp [c4, show l[k - 1].second < x.second by omega]
              cases A <;> simp
        · rw [show (x.sig != sealOf b x.second x.lights) = true by simpa using c3, cnd_tt]
          simp [c3]
      · rw [show ((x.lights.length : Int) != (l[0].lights.length : Int)) = true by simp; omega, cnd_tt]
        simp [c2]
    · have h60' : ¬ l.length ≤ 60 := by omega
      simp [hk, h60, h60']

theorem iIsRecord_v (l : List Note) (h : Sm l ∧ ∀ y ∈ l, SmNote y) : S_iIsRecord l = some (isRecord l) := by
  obtain ⟨h, hs⟩ := h
  unfold Sm at h
  unfold S_iIsRecord isRecord
  by_cases h60 : (60 : Int) < (l.length : Int)
  · have h60' : ¬ l.length ≤ 60 := by omega
    simp [h60, h60']
  have h60' : l.length ≤ 60 := by omega
  simp [h60, h60']
  refine (iter_list0 l (by omega) (fun k b => (l, b, l, (l.length : Int), (k : Int))) 0 (fun s k b => some (goR (firstLen l) b (prevSec l k) s)) rfl ?_ ?_).trans rfl
  · intro rec b
    simp [goR]
  · intro rec k x b hx hk hr
    simp only [Int.natCast_succ, prevSec_succ hx] at hr
    have hsx : Sm x.lights := hs x (mem_at hx)
    have hz : l[0]? = some l[0] := List.getElem?_eq_getElem (by omega)
    simp [hk, getZ_at hx, iSealOf_v b x.second x.lights hsx, iInRange_r, getZ0 hz, goR, noteOk, later, firstLen_at hz]
    cases inR x.second 0 1000000 with
    | false => simp
    | true =>
    simp
    generalize hI : iter (_ : ((List Note × List Note × Int × Int × List Int × Int × Int) × Note → Option Bool) → _ → Option Bool) NN ((l, l, (l.length : Int), (k : Int), x.lights, (x.lights.length : Int), (0 : Int)), x) = I
    have hI' : I = if x.lights.all (fun v => inR v 0 2) = true then some (goR l[0].lights.length x.sig (some x.second) (l.drop (k + 1))) else some false := by
      rw [← hI]
      refine all_loop x.lights (fun v => inR v 0 2) (by unfold Sm at hsx; omega) (fun j => ((l, l, (l.length : Int), (k : Int), x.lights, (x.lights.length : Int), (j : Int)), x)) _ _ rfl ?_ ?_
      · intro rec'
        simp [W_n1 (show k ≤ 9223372036854775806 by omega), hr, firstLen_at hz]
      · intro rec' j v hv hj
        have hj2 : j ≤ 9223372036854775806 := by unfold Sm at hsx; omega
        simp [getZ_at hv, hj, iInRange_r, W_n1 hj2]
        cases inR v 0 2 <;> simp
    rw [hI']
    clear hI' hI
    generalize x.lights.all (fun v => inR v 0 2) = A
    generalize hB : cnd (decide ((12 : Int) < (x.lights.length : Int))) (some false) _ = B
    have hB' : B = some ((decide (x.lights.length ≤ 12) && decide (x.lights.length = l[0].lights.length) && decide (x.sig = sealOf b x.second x.lights) && A) && goR l[0].lights.length x.sig (some x.second) (l.drop (k + 1))) := by
      rw [← hB]
      by_cases c1 : (12 : Int) < (x.lights.length : Int)
      · simp [c1, show ¬ x.lights.length ≤ 12 by omega]
      simp only [c1, decide_false, cnd_ff, show x.lights.length ≤ 12 by omega, decide_true, Bool.true_and]
      by_cases c2 : x.lights.length = l[0].lights.length
      · simp only [c2, bne_self_eq_false, cnd_ff, decide_true, Bool.true_and]
        by_cases c3 : x.sig = sealOf b x.second x.lights
        · simp only [← c3, bne_self_eq_false, cnd_ff, decide_true, Bool.true_and]
          cases A <;> simp
        · rw [show (x.sig != sealOf b x.second x.lights) = true by simpa using c3, cnd_tt]
          simp [c3]
      · rw [show ((x.lights.length : Int) != (l[0].lights.length : Int)) = true by simp; omega, cnd_tt]
        simp [c2]
    rw [hB']
    by_cases h0 : k = 0
    · subst h0
      simp [prevSec]
    · have hz1 : l[k - 1]? = some l[k - 1] := List.getElem?_eq_getElem (by omega)
      have hk1 : W ((k : Int) - 1) = ((k - 1 : Nat) : Int) := by rw [W_id (by omega) (by omega)]; omega
      simp [show 0 < k by omega, hk1, getZ_at hz1]
      rw [show prevSec l k = some (l[k - 1]).second by unfold prevSec; simp [h0, hz1]]
      by_cases c4 : x.second ≤ l[k - 1].second
      · simp [c4, show ¬ l[k - 1].second < x.second by omega]
      · simp [c4, show l[k - 1].second < x.second by omega]
end Go.Sh
