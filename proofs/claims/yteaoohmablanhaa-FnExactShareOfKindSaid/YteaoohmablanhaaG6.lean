/- ShareOfKind. -/
import Derived.Test.YteaoohmablanhaaG5
set_option linter.all false
namespace Go.Sh
open Go.Fx
theorem goP_lt : ∀ (l : List Path) (pv : Option Int), goP pv l = true → (∀ x ∈ l, ∀ a, pv = some a → a < x.id) ∧ l.Pairwise (fun x y => x.id < y.id)
  | [], _, _ => ⟨by simp, .nil⟩
  | x :: l, pv, h => by
    have h2 : goP (some x.id) l = true := by cases pv <;> · unfold goP at h; simp at h; simp [h]
    obtain ⟨g1, g2⟩ := goP_lt l _ h2
    have hx : ∀ a, pv = some a → a < x.id := fun a e => by
      subst e
      unfold goP at h
      simp at h
      exact h.1.2
    refine ⟨fun y hy a e => ?_, List.pairwise_cons.2 ⟨fun y hy => g1 y hy x.id rfl, g2⟩⟩
    rcases List.mem_cons.1 hy with rfl | hy
    · exact hx a e
    · have := g1 y hy x.id rfl
      have := hx a e
      omega
theorem own_path {l : List Path} (h : arePaths l = true) {k : Nat} {x : Path} (hx : l[k]? = some x) : pathAt l x.id = x := by
  obtain ⟨i, y, h1, h2, h3⟩ := findPath_lt (find_own hx)
  have hy : pathAt l x.id = y := by unfold pathAt; rw [h2, Int.toNat_natCast, h1]; rfl
  rw [hy]
  unfold arePaths at h
  rw [Bool.and_eq_true] at h
  have hp := (goP_lt l none h.2).2
  rcases Nat.lt_trichotomy i k with c | c | c
  · have := (List.pairwise_iff_getElem.1 hp) i k (List.getElem?_eq_some_iff.1 h1).1 (List.getElem?_eq_some_iff.1 hx).1 c
    rw [(List.getElem?_eq_some_iff.1 h1).2, (List.getElem?_eq_some_iff.1 hx).2] at this
    omega
  · subst c
    rw [h1] at hx
    exact Option.some.inj hx
  · have := (List.pairwise_iff_getElem.1 hp) k i (List.getElem?_eq_some_iff.1 hx).1 (List.getElem?_eq_some_iff.1 h1).1 c
    rw [(List.getElem?_eq_some_iff.1 h1).2, (List.getElem?_eq_some_iff.1 hx).2] at this
    omega
def goK (l : List Path) (p : List Part) (kind : Int) : List Path → Int → Int → Int
  | [], s, n => if n = 0 then 0 else W (Int.tdiv s n)
  | x :: r, s, n => if x.kind = kind then goK l p kind r (W (s + (service l p x.id).share)) (W (n + 1)) else goK l p kind r s n
def shareOfKind (l : List Path) (p : List Part) (kind : Int) : Int := goK l p kind (if isPlan l p = true then l else []) 0 0
theorem iShareOfKind_v (l : List Path) (p : List Part) (kind : Int) (h : Sm l) (hp : SmL p) : S_iShareOfKind l p kind = some (shareOfKind l p kind) := by
  have hl := h
  unfold Sm at hl
  unfold S_iShareOfKind shareOfKind
  simp only [rws_path, rws_part_ss, iAllServices_v l p h hp, bnd_some, rws_service, len_service]
  generalize hq : (if isPlan l p = true then l else []) = q
  have ha : allServices l p = q.map (fun x => service l p x.id) := by rw [← hq]; unfold allServices; split <;> simp
  have hql : q.length ≤ 1048576 := by rw [← hq]; split; exact hl; simp
  have hqx : ∀ (k : Nat) x, q[k]? = some x → ¬ findPath l x.id < 0 ∧ pathAt l x.id = x := fun k x hx => by
    rw [← hq] at hx
    split at hx
    · rename_i hpl
      exact ⟨find_own hx, own_path (isPlan_spec hpl).2.2.2 hx⟩
    · simp at hx
  rw [ha]
  refine (iter_listJ q (by omega) (fun k (z : Int × Int) => (l, kind, z.1, z.2, q.map (fun x => service l p x.id), ((q.map (fun x => service l p x.id)).length : Int), (k : Int))) ((0 : Int), (0 : Int)) (fun _ _ => True) trivial (fun r _ z => some (goK l p kind r z.1 z.2)) rfl ?_ ?_).trans rfl
  · intro rec z _
    simp [goK, cnd_if]
    by_cases c : z.2 = 0 <;> simp [c]
  · intro rec k x z _ hx hk hr
    obtain ⟨e1, e2⟩ := hqx k x hx
    have hs : (q.map (fun x => service l p x.id))[k]? = some (service l p x.id) := by rw [List.getElem?_map, hx]; rfl
    simp only [Int.natCast_succ] at hr
    have e3 : (service l p x.id).path = x.id := rfl
    simp [hk, getZ_at hs, e3, iFindPath_v l _ h, getZ_find e1, e2, W_n1 (show k ≤ 9223372036854775806 by omega), goK, cnd_if]
    by_cases c : x.kind = kind
    · have := hr (W (z.1 + (service l p x.id).share), W (z.2 + 1)) trivial
      simp [c]
      simpa using this
    · have := hr z trivial
      simp [c]
      simpa using this
theorem sShareOfKind_v (l : List Path) (p : List Part) (kind : Int) (h : Sm l) (hp : SmL p) : S_sShareOfKind l p kind = some (shareOfKind l p kind) := by
  have hl := h
  unfold Sm at hl
  unfold S_sShareOfKind shareOfKind
  simp only [rws_path, rws_part_ss, sAllServices_v l p h hp, bnd_some, rws_service, len_service]
  generalize hq : (if isPlan l p = true then l else []) = q
  have ha : allServices l p = q.map (fun x => service l p x.id) := by rw [← hq]; unfold allServices; split <;> simp
  have hql : q.length ≤ 1048576 := by rw [← hq]; split; exact hl; simp
  have hqx : ∀ (k : Nat) x, q[k]? = some x → l[k]? = some x := fun k x hx => by
    rw [← hq] at hx
    split at hx
    · exact hx
    · simp at hx
  rw [ha]
  refine (iter_listJ q (by omega) (fun k (z : Int × Int) => (l, kind, z.1, z.2, q.map (fun x => service l p x.id), (k : Int))) ((0 : Int), (0 : Int)) (fun _ _ => True) trivial (fun r _ z => some (goK l p kind r z.1 z.2)) rfl ?_ ?_).trans rfl
  · intro rec z _
    simp [goK, cnd_if]
    by_cases c : z.2 = 0 <;> simp [c]
  · intro rec k x z _ hx hk hr
    have e1 := hqx k x hx
    have hs : (q.map (fun x => service l p x.id))[k]? = some (service l p x.id) := by rw [List.getElem?_map, hx]; rfl
    simp only [Int.natCast_succ] at hr
    simp [hk, getZ_at hs, getZ_at e1, W_n1 (show k ≤ 9223372036854775806 by omega), goK, cnd_if]
    by_cases c : x.kind = kind
    · have := hr (W (z.1 + (service l p x.id).share), W (z.2 + 1)) trivial
      simp [c]
      simpa using this
    · have := hr z trivial
      simp [c]
      simpa using this
theorem lFnExactShareOfKind_v (x : List Path × List Part × Int) (h : (x.1.length ≤ maxLen ∧ ∀ y ∈ x.1, OkPath y) ∧ (x.2.1.length ≤ maxLen ∧ ∀ y ∈ x.2.1, OkPart y) ∧ Rg x.2.2) : S_lFnExactShareOfKind x.1 x.2.1 x.2.2 = some true := by
  obtain ⟨l, p, kind⟩ := x
  obtain ⟨h1, h2, _⟩ := h
  obtain ⟨r, e, d⟩ := lszPathS_v l h1 1048576 (by decide) (by decide)
  unfold S_lFnExactShareOfKind
  simp only [rws_path, rws_part_ss]
  rcases d with d | ⟨d1, d2, hs⟩
  · simp [e, d]
  · obtain ⟨r', e', d'⟩ := lszPartS_v p h2 r (by omega) (by omega)
    rcases d' with d' | ⟨_, _, hs'⟩
    · simp [e, e', d', show ¬ r < 0 by omega]
    · simp [e, e', show ¬ r < 0 by omega, show ¬ r' < 0 by omega, ltoPathS_v l hs, ltoPartS_v p hs', sShareOfKind_v l p kind hs hs', iShareOfKind_v l p kind hs hs', leqPathS_v _ _ hs, leqPartS_v _ _ hs']
end Go.Sh
