/- Services. -/
import Derived.Test.YteaoohmablanhaaG3
set_option linter.all false
namespace Go.Sh
open Go.Fx
def greensOf (l : List Path) (p : List Part) (id : Int) : List Bool := (rowOf l p id).map fun x => x == 1
theorem igreens_v (l : List Path) (p : List Part) (h : Sm l) (hp : SmL p) (hpl : isPlan l p = true) (id : Int) (hid : ¬ findPath l id < 0) : S_igreens l p id = some (greensOf l p id) := by
  have hs := hp.1
  unfold Sm at hs
  obtain ⟨c1, c2⟩ := cyc_r hpl
  have hc : cyc l p = (lens l p).sum := by unfold cyc; rw [if_pos hpl]
  have hgl : (greensOf l p id).length = cyc l p := by unfold greensOf; rw [List.length_map, rowOf_len hpl]
  unfold S_igreens
  simp [iFindPath_v l _ h, hid, iCycle_v l p h hp]
  rw [ifA_pos (by constructor <;> omega)]
  refine (iter_listJ (greensOf l p id) (by omega) (fun k acc => ((l, p, id, (cyc l p : Int), (k : Int)), acc)) (List.replicate (cyc l p) false) (fun k acc => acc = (greensOf l p id).take k ++ List.replicate ((greensOf l p id).length - k) false) (by simp [hgl]) (fun _ _ _ => some (greensOf l p id)) rfl ?_ ?_).trans rfl
  · intro rec acc ha
    simp [hgl, ha]
    rw [← hgl]; simp
  · intro rec k x acc ha hx hk hr
    have hk' : k < cyc l p := by omega
    have hx' : x = (li l p id (goA (lens l p) k 0).1 (goA (lens l p) k 0).2 == 1) := by
      unfold greensOf at hx
      rw [rowOf_eq] at hx
      simp [show k < (lens l p).sum by omega] at hx
      exact hx.symm
    have hal : k < acc.length := by rw [ha]; simp; omega
    simp only [Int.natCast_succ] at hr
    have hz : acc[k]? = some acc[k] := List.getElem?_eq_getElem hal
    simp [hk', iLightAt_v l p h hp hpl id hid k hk', hal, getN_at hz, W_n1 (show k ≤ 9223372036854775806 by omega), ← hx']
    refine hr _ ?_
    rw [ha]
    exact fill_set hx
theorem sl9Row_v (l : List Path) (p : List Part) (h : Sm l) (hp : SmL p) (hpl : isPlan l p = true) (id : Int) (hid : ¬ findPath l id < 0) : S_sl9Row l p id = some (rowOf l p id) := by
  have hs := hp.1
  unfold Sm at hs
  have hrl := rowOf_len hpl id
  obtain ⟨c1, c2⟩ := cyc_r hpl
  unfold S_sl9Row
  simp only [rws_path, rws_part_ss, len_part, sIsPlan_v l p h hp, hpl, bnd_some, Bool.not_true, cnd_ff, sFindPath_v l _ h, show decide (findPath l id < 0) = false by simpa using hid]
  refine (iter_listJ p (by omega) (fun k acc => (l, p, id, acc, (k : Int))) [] (fun k acc => acc = (List.range k).flatMap fun i => (List.range (lg l p i)).map fun s => li l p id i s) rfl (fun _ _ _ => some (rowOf l p id)) rfl ?_ ?_).trans rfl
  · intro rec acc ha
    simp [ha, rowOf]
  · intro rec k x acc ha hx hk hr
    simp only [Int.natCast_succ] at hr
    have hpre : (acc ++ (List.range (lg l p k)).map fun s => li l p id k s) = (List.range (k + 1)).flatMap fun i => (List.range (lg l p i)).map fun s => li l p id i s := by
      rw [List.range_succ, List.flatMap_append, ha]; simp
    have hle : acc.length + lg l p k ≤ 390 := by
      have e1 : (acc ++ (List.range (lg l p k)).map fun s => li l p id k s).length ≤ (rowOf l p id).length := by
        rw [hpre]
        unfold rowOf
        have : p.length = (k + 1) + (p.length - (k + 1)) := by omega
        conv => rhs; rw [this, List.range_add, List.flatMap_append]
        rw [List.length_append]; omega
      rw [hrl] at e1
      simp at e1
      omega
    simp [hk]
    refine (iter_listJ (List.range (lg l p k)) (by have := (lg_at hpl hx).2.2; simp; omega) (fun j b => (l, p, id, b, (k : Int), (j : Int))) acc (fun j b => b = acc ++ (List.range j).map fun s => li l p id k s) (by simp) (fun _ _ _ => some (rowOf l p id)) rfl ?_ ?_).trans rfl
    · intro rec2 b hb
      simp only [List.length_range] at hb ⊢
      simp [sl8Long_v l p h hp hpl k hk, W_n1 (show k ≤ 9223372036854775806 by omega)]
      exact hr _ (hb.trans hpre)
    · intro rec2 j s b hb hx2 hj hr2
      have hj' : j < lg l p k := by simpa using hj
      simp only [Int.natCast_succ] at hr2
      have hbl : b.length = acc.length + j := by rw [hb]; simp
      simp [sl8Long_v l p h hp hpl k hk, hj', sl9Light_v l p h hp hpl id hid k j hk, W_n1 (show j ≤ 9223372036854775806 by omega), show (b.length + 1) * 8 ≤ 140737488355328 by omega, show b.length ≤ 1152921504606846975 by omega]
      refine hr2 _ ?_
      rw [hb, List.range_succ, List.map_append]; simp
def greenOf (l : List Path) (p : List Part) (id : Int) : Int := cnt (fun x : Int => x == 1) (rowOf l p id)
theorem iGreenOf_v (l : List Path) (p : List Part) (h : Sm l) (hp : SmL p) (hpl : isPlan l p = true) (id : Int) (hid : ¬ findPath l id < 0) : S_iGreenOf l p id = some (greenOf l p id) := by
  have hrl := rowOf_len hpl id
  have hgl : (greensOf l p id).length = cyc l p := by unfold greensOf; rw [List.length_map, rowOf_len hpl]
  obtain ⟨c1, c2⟩ := cyc_r hpl
  unfold S_iGreenOf
  simp [igreens_v l p h hp hpl id hid]
  have e : greenOf l p id = cnt (fun x : Bool => x) (greensOf l p id) := by
    unfold greenOf cnt greensOf
    rw [List.filter_map, List.length_map]; rfl
  rw [e]
  refine count_loop (greensOf l p id) (fun x => x) (by omega) (fun k n => (n, greensOf l p id, ((greensOf l p id).length : Int), (k : Int))) some rfl ?_ ?_
  · intro rec n; simp
  · intro rec k x n hx hk hn
    simp [hk, getZ_at hx, W_n1 (show k ≤ 9223372036854775806 by omega), W_n1 (show n ≤ 9223372036854775806 by omega), cnd_if]
theorem sGreenOf_v (l : List Path) (p : List Part) (h : Sm l) (hp : SmL p) (hpl : isPlan l p = true) (id : Int) (hid : ¬ findPath l id < 0) : S_sGreenOf l p id = some (greenOf l p id) := by
  have hrl := rowOf_len hpl id
  obtain ⟨c1, c2⟩ := cyc_r hpl
  unfold S_sGreenOf greenOf
  simp [sl9Row_v l p h hp hpl id hid]
  refine count_loop (rowOf l p id) (fun x => x == 1) (by omega) (fun k n => (n, rowOf l p id, (k : Int))) some rfl ?_ ?_
  · intro rec n; simp
  · intro rec k x n hx hk hn
    simp [hk, getZ_at hx, W_n1 (show k ≤ 9223372036854775806 by omega), W_n1 (show n ≤ 9223372036854775806 by omega), cnd_if]
def gW (r : List Int) : List Nat → Int → Int → Int
  | [], b, _ => if (r.length : Int) < b then r.length else b
  | k :: ks, b, n => if ((r[k % r.length]?).getD 0 == 1) = true then gW r ks (if b < 0 then 0 else b) 0 else gW r ks (if b < n + 1 then n + 1 else b) (n + 1)
def waitOf (l : List Path) (p : List Part) (id : Int) : Int := gW (rowOf l p id) (List.range (2 * cyc l p)) 0 0
theorem tmod_len {k n : Nat} : Int.tmod (k : Int) (n : Int) = ((k % n : Nat) : Int) := tmod_n
theorem iWaitOf_v (l : List Path) (p : List Part) (h : Sm l) (hp : SmL p) (hpl : isPlan l p = true) (id : Int) (hid : ¬ findPath l id < 0) : S_iWaitOf l p id = some (waitOf l p id) := by
  have hrl := rowOf_len hpl id
  have hgl : (greensOf l p id).length = cyc l p := by unfold greensOf; rw [List.length_map, rowOf_len hpl]
  obtain ⟨c1, c2⟩ := cyc_r hpl
  unfold S_iWaitOf waitOf
  simp only [rws_path, rws_part_ss, igreens_v l p h hp hpl id hid, bnd_some, rws_b, len_b, hgl]
  rw [show W (2 * (cyc l p : Int)) = ((2 * cyc l p : Nat) : Int) by rw [W_id (by omega) (by omega)]; omega]
  refine (iter_listJ (List.range (2 * cyc l p)) (by simp; omega) (fun k (z : Int × Int) => (greensOf l p id, z.1, z.2, ((2 * cyc l p : Nat) : Int), (k : Int))) ((0 : Int), (0 : Int)) (fun k z => 0 ≤ z.2 ∧ z.2 ≤ k) (by simp) (fun ks _ z => some (gW (rowOf l p id) ks z.1 z.2)) rfl ?_ ?_).trans rfl
  · intro rec z hz
    simp [gW, hgl, hrl]
  · intro rec k x z hz hx hk hr
    have hk' : k < 2 * cyc l p := by simpa using hk
    have hxk : x = k := by
      rw [List.getElem?_range hk'] at hx
      exact (Option.some.inj hx).symm
    subst hxk
    have hm : x % cyc l p < cyc l p := Nat.mod_lt _ (by omega)
    have hg : (greensOf l p id)[x % cyc l p]? = some (((rowOf l p id)[x % cyc l p]?).getD 0 == 1) := by
      unfold greensOf
      rw [List.getElem?_map, List.getElem?_eq_getElem (by omega)]; rfl
    have hgz : ∀ {β : Type} (K : Bool → Option β), getZ (greensOf l p id) ((x : Int) % (cyc l p : Int)) K = K (((rowOf l p id)[x % cyc l p]?).getD 0 == 1) := fun K => by
      have := getZ_at hg K
      rwa [Int.natCast_emod] at this
    simp only [Int.natCast_succ] at hr
    simp [hgl, show (x : Int) < 2 * (cyc l p : Int) by omega, tmod_len, hgz, W_n1 (show x ≤ 9223372036854775806 by omega), W_id (show -9223372036854775808 ≤ z.2 + 1 by omega) (by omega), show ¬ cyc l p = 0 by omega, gW, hrl]
    by_cases c : ((rowOf l p id)[x % cyc l p]?).getD 0 = 1
    · have := hr (if z.1 < 0 then 0 else z.1, 0) (by constructor <;> omega)
      simp [c]
      simpa using this
    · have := hr (if z.1 < z.2 + 1 then z.2 + 1 else z.1, z.2 + 1) (by constructor <;> simp <;> omega)
      simp [c, show (((rowOf l p id)[x % cyc l p]?).getD 0 == 1) = false by simp [c]]
      simpa using this
end Go.Sh
