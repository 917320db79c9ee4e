/- Services: the law. -/
import Derived.Test.YteaoohmablanhaaG4
set_option linter.all false
namespace Go.Sh
open Go.Fx
theorem sWaitOf_v (l : List Path) (p : List Part) (h : Sm l) (hp : SmL p) (hpl : isPlan l p = true) (id : Int) (hid : ¬ findPath l id < 0) : S_sWaitOf l p id = some (waitOf l p id) := by
  have hrl := rowOf_len hpl id
  obtain ⟨c1, c2⟩ := cyc_r hpl
  unfold S_sWaitOf waitOf
  simp only [rws_path, rws_part_ss, sl9Row_v l p h hp hpl id hid, bnd_some, rws_i, len_i]
  refine (iter_listJ (List.range (2 * cyc l p)) (by simp; omega) (fun k (z : Int × Int) => (rowOf l p id, z.1, z.2, (k : Int))) ((0 : Int), (0 : Int)) (fun k z => 0 ≤ z.2 ∧ z.2 ≤ k) (by simp) (fun ks _ z => some (gW (rowOf l p id) ks z.1 z.2)) rfl ?_ ?_).trans rfl
  · intro rec z hz
    simp [gW, hrl, sMin_v, W_id (show -9223372036854775808 ≤ 2 * (cyc l p : Int) by omega) (by omega)]
  · intro rec k x z hz hx hk hr
    have hk' : k < 2 * cyc l p := by simpa using hk
    have hxk : x = k := by
      rw [List.getElem?_range hk'] at hx
      exact (Option.some.inj hx).symm
    subst hxk
    have hm : x % cyc l p < cyc l p := Nat.mod_lt _ (by omega)
    have hg : (rowOf l p id)[x % cyc l p]? = some (((rowOf l p id)[x % cyc l p]?).getD 0) := by
      rw [List.getElem?_eq_getElem (by omega)]; rfl
    have hgz : ∀ {β : Type} (K : Int → Option β), getZ (rowOf l p id) ((x : Int) % (cyc l p : Int)) K = K (((rowOf l p id)[x % cyc l p]?).getD 0) := fun K => by
      have := getZ_at hg K
      rwa [Int.natCast_emod] at this
    simp only [Int.natCast_succ] at hr
    simp [hrl, W_id (show -9223372036854775808 ≤ 2 * (cyc l p : Int) by omega) (by omega), show (x : Int) < 2 * (cyc l p : Int) by omega, tmod_len, hgz, W_n1 (show x ≤ 9223372036854775806 by omega), W_id (show -9223372036854775808 ≤ z.2 + 1 by omega) (by omega), show ¬ cyc l p = 0 by omega, gW, sMax_v]
    try rw [ifA_pos (by intro e; rw [e] at hrl; simp at hrl; omega)]
    by_cases c : ((rowOf l p id)[x % cyc l p]?).getD 0 = 1
    · have := hr (if z.1 < 0 then 0 else z.1, 0) (by constructor <;> omega)
      simp [c]
      simpa using this
    · have := hr (if z.1 < z.2 + 1 then z.2 + 1 else z.1, z.2 + 1) (by constructor <;> simp <;> omega)
      simp [c, show (((rowOf l p id)[x % cyc l p]?).getD 0 == 1) = false by simp [c]]
      simpa using this
def service (l : List Path) (p : List Part) (id : Int) : Service := ⟨id, greenOf l p id, waitOf l p id, W (Int.tdiv (W (100 * greenOf l p id)) (cyc l p))⟩
theorem iServiceOf_v (l : List Path) (p : List Part) (h : Sm l) (hp : SmL p) (id : Int) (hid : ¬ findPath l id < 0) : S_iServiceOf l p id = some (if isPlan l p = true then (service l p id, true) else (⟨0, 0, 0, 0⟩, false)) := by
  unfold S_iServiceOf service
  simp only [rws_path, rws_part_ss, iIsPlan_v l p h hp, bnd_some, iFindPath_v l _ h]
  cases hpl : isPlan l p with
  | false => simp
  | true =>
    obtain ⟨c1, c2⟩ := cyc_r hpl
    simp [hid, iGreenOf_v l p h hp hpl id hid, iWaitOf_v l p h hp hpl id hid, iCycle_v l p h hp, show ¬ cyc l p = 0 by omega]
theorem sServiceOf_v (l : List Path) (p : List Part) (h : Sm l) (hp : SmL p) (id : Int) (hid : ¬ findPath l id < 0) : S_sServiceOf l p id = some (if isPlan l p = true then (service l p id, true) else (⟨0, 0, 0, 0⟩, false)) := by
  unfold S_sServiceOf service
  simp only [rws_path, rws_part_ss, sIsPlan_v l p h hp, bnd_some, sFindPath_v l _ h]
  cases hpl : isPlan l p with
  | false => simp
  | true =>
    obtain ⟨c1, c2⟩ := cyc_r hpl
    simp [hid, sGreenOf_v l p h hp hpl id hid, sWaitOf_v l p h hp hpl id hid, sCycle_v l p h hp, show ¬ cyc l p = 0 by omega]
theorem find_own {l : List Path} {k : Nat} {x : Path} (hx : l[k]? = some x) : ¬ findPath l x.id < 0 := by
  unfold findPath
  cases hf : l.findIdx? (fun p => p.id == x.id) with
  | some i => simp
  | none =>
    exfalso
    rw [List.findIdx?_eq_none_iff] at hf
    have := hf x (List.mem_of_getElem? hx)
    simp at this
def allServices (l : List Path) (p : List Part) : List Service := if isPlan l p = true then l.map (fun x => service l p x.id) else []
theorem appe_service (l : List Service) (s : Service) : l.map serviceR.enc ++ [[I s.path, I s.green, I s.wait, I s.share]] = (l ++ [s]).map serviceR.enc := (List.map_append (f := serviceR.enc) (l₁ := l) (l₂ := [s])).symm
theorem iAllServices_v (l : List Path) (p : List Part) (h : Sm l) (hp : SmL p) : S_iAllServices l p = some (allServices l p) := by
  have hl := h
  unfold Sm at hl
  unfold S_iAllServices allServices
  simp only [rws_path, rws_part_ss, len_path]
  cases hpl : isPlan l p with
  | false =>
    refine (iter_list0 l (by omega) (fun k (_ : Unit) => (l, p, ([] : List Service), l, (l.length : Int), (k : Int))) () (fun _ _ _ => some []) rfl ?_ ?_).trans (by simp)
    · intro rec _; simp
    · intro rec k x _ hx hk hr
      simp only [Int.natCast_succ] at hr
      simp [hk, getZ_at hx, iServiceOf_v l p h hp _ (find_own hx), hpl, W_n1 (show k ≤ 9223372036854775806 by omega), hr ()]
  | true =>
    rw [if_pos rfl]
    refine mapG_loop l (fun x => service l p x.id) (by omega) (fun k acc => (l, p, acc, l, (l.length : Int), (k : Int))) some rfl ?_ ?_
    · intro rec acc ha; simp
    · intro rec k x acc hx hk ha
      simp [hk, getZ_at hx, iServiceOf_v l p h hp _ (find_own hx), hpl, W_n1 (show k ≤ 9223372036854775806 by omega), appe_service, ha, show (k + 1) * 32 ≤ 140737488355328 by omega, show k ≤ 1152921504606846975 by omega]
theorem sAllServices_v (l : List Path) (p : List Part) (h : Sm l) (hp : SmL p) : S_sAllServices l p = some (allServices l p) := by
  have hl := h
  unfold Sm at hl
  unfold S_sAllServices allServices
  simp only [rws_path, rws_part_ss, len_path]
  cases hpl : isPlan l p with
  | false =>
    refine (iter_list0 l (by omega) (fun k (_ : Unit) => (l, p, ([] : List Service), (k : Int))) () (fun _ _ _ => some []) rfl ?_ ?_).trans (by simp)
    · intro rec _; simp
    · intro rec k x _ hx hk hr
      simp [hk, sIsPlan_v l p h hp, hpl]
  | true =>
    rw [if_pos rfl]
    refine mapG_loop l (fun x => service l p x.id) (by omega) (fun k acc => (l, p, acc, (k : Int))) some rfl ?_ ?_
    · intro rec acc ha; simp
    · intro rec k x acc hx hk ha
      simp [hk, getZ_at hx, sIsPlan_v l p h hp, hpl, sServiceOf_v l p h hp _ (find_own hx), W_n1 (show k ≤ 9223372036854775806 by omega), appe_service, ha, show (k + 1) * 32 ≤ 140737488355328 by omega, show k ≤ 1152921504606846975 by omega]
theorem lFnExactAllServices_v (x : List Path × List Part) (h : (x.1.length ≤ maxLen ∧ ∀ y ∈ x.1, OkPath y) ∧ (x.2.length ≤ maxLen ∧ ∀ y ∈ x.2, OkPart y)) : S_lFnExactAllServices x.1 x.2 = some true := by
  obtain ⟨l, p⟩ := x
  obtain ⟨h1, h2⟩ := h
  obtain ⟨r, e, d⟩ := lszPathS_v l h1 1048576 (by decide) (by decide)
  unfold S_lFnExactAllServices
  simp only [rws_path, rws_part_ss]
  rcases d with d | ⟨d1, d2, hs⟩
  · simp [e, d]
  · obtain ⟨r', e', d'⟩ := lszPartS_v p h2 r (by omega) (by omega)
    rcases d' with d' | ⟨_, _, hs'⟩
    · simp [e, e', d', show ¬ r < 0 by omega]
    · have hg : Sm (allServices l p) := by
        unfold Sm allServices at *
        split
        · simpa using hs
        · simp
      obtain ⟨n0, b0, c0, d0, f0, e0⟩ := lmarkPathS_m l hs 1 (by omega) (by omega)
      obtain ⟨n2, b2, c2, d2, f2, e2⟩ := lmarkPartS_m p hs' (1 + n0) (by omega) (by omega)
      obtain ⟨n1, b1, c1, d1, f1, e1⟩ := lmarkServiceS_m _ hg 1 (by omega) (by omega)
      have e3 := lheldServiceS_h b1 1 n1 (by omega) (by omega) f1
      simp (disch := omega) [e, e', show ¬ r < 0 by omega, show ¬ r' < 0 by omega, ltoPathS_v l hs, ltoPartS_v p hs', sAllServices_v l p hs hs', iAllServices_v l p hs hs', leqServiceS_v _ _ hg, leqPathS_v _ _ hs, leqPartS_v _ _ hs', e0, e1, e2, e3, cnd_no, ifA_t]
end Go.Sh
