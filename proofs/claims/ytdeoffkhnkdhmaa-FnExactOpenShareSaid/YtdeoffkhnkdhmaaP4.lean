/- The share of time that a light was open. -/
import Derived.Test.YtdeoffkhnkdhmaaP3
set_option linter.all false
namespace Go.Sh
open Go.Fx

theorem goR_len {n : Nat} : ∀ {l : List Note} {b : Int} {pv : Option Int}, goR n b pv l = true → ∀ x ∈ l, x.lights.length = n ∧ 0 ≤ x.second ∧ x.second ≤ 1000000 ∧ ∀ v ∈ x.lights, 0 ≤ v
  | [], _, _, _ => fun x hx => by cases hx
  | y :: l, b, pv, h => fun x hx => by
    simp [goR, noteOk, inR] at h
    rcases List.mem_cons.1 hx with rfl | hx
    · exact ⟨h.1.1.1.1.2, by omega, by omega, fun v hv => (h.1.1.2 v hv).1⟩
    · exact goR_len h.2 x hx
theorem isRecord_len {l : List Note} (h : isRecord l = true) : ∀ x ∈ l, x.lights.length = firstLen l ∧ 0 ≤ x.second ∧ x.second ≤ 1000000 ∧ ∀ v ∈ x.lights, 0 ≤ v := by
  simp [isRecord] at h
  exact goR_len h.2

def upto (u : Int) : List Note → Int
  | [] => u
  | y :: _ => if y.second < u then y.second else u
def pos (n : Int) : Int := if 0 < n then n else 0
def goShare (i : Nat) (u : Int) : List Note → Int → Int
  | [], acc => acc
  | x :: r, acc => goShare i u r (if x.lights[i]? = some 1 then W (acc + pos (W (upto u r - x.second))) else acc)
def openShare (l : List Note) (i u : Int) : Int :=
  if isRecord l = false ∨ 1000000 < u then 0 else
  match l with
  | [] => 0
  | x :: _ => if u ≤ x.second ∨ i < 0 ∨ (x.lights.length : Int) ≤ i then 0 else W (Int.tdiv (W (100 * goShare i.toNat u l 0)) (W (u - x.second)))

theorem sMin_v (a b : Int) : S_sMin a b = some (if b < a then b else a) := by
  unfold S_sMin
  rw [cnd_if]
  simp only [decide_eq_true_eq]
  split <;> rfl
theorem sMax0 (a : Int) : S_sMax 0 a = some (pos a) := by rw [sMax_v]; rfl
theorem drop_next {α : Type} {l : List α} {k : Nat} {y : α} (h : l[k]? = some y) : l.drop k = y :: l.drop (k + 1) := by
  obtain ⟨h1, h2⟩ := List.getElem?_eq_some_iff.1 h
  rw [List.drop_eq_getElem_cons h1, h2]

theorem sOpenShare_v (l : List Note) (i u : Int) (h : Sm l ∧ ∀ y ∈ l, SmNote y) : S_sOpenShare l i u = some (openShare l i u) := by
  unfold S_sOpenShare
  simp [sIsRecord_v l h]
  obtain ⟨h, hs⟩ := h
  unfold Sm at h
  cases hR : isRecord l with
  | false => simp [openShare, hR]
  | true =>
  have hL := isRecord_len hR
  cases l with
  | nil => simp [openShare]
  | cons x0 t =>
  by_cases hu : (1000000 : Int) < u
  · simp [openShare, hu, cnd_if]
  have h00 := hL x0 (List.mem_cons_self ..)
  simp [openShare, hu, hR, getZ_zero]
  rw [show (((t.length : Int) + 1) == 0) = false by simp; omega, cnd_ff]
  by_cases c1 : u ≤ x0.second
  · simp [c1]
  have hsx : Sm x0.lights := hs x0 (List.mem_cons_self ..)
  unfold Sm at hsx
  simp only [c1, decide_false, cnd_ff, sl1In_v, bnd_some, W_id (show -9223372036854775808 ≤ (x0.lights.length : Int) - 1 by omega) (by omega), false_or]
  by_cases c2 : i < 0
  · simp [c2, show ¬ (0 ≤ i) by omega]
  by_cases c3 : (x0.lights.length : Int) ≤ i
  · simp [c3, show ¬ (i ≤ (x0.lights.length : Int) - 1) by omega]
  simp [c2, c3, show 0 ≤ i by omega, show i ≤ (x0.lights.length : Int) - 1 by omega]
  have hd : W (u - x0.second) = u - x0.second := W_id (by omega) (by omega)
  refine (iter_list0 (x0 :: t) (by omega) (fun k acc => (x0 :: t, i, u, acc, (k : Int))) 0 (fun s _ acc => some (W (Int.tdiv (W (100 * goShare i.toNat u s acc)) (W (u - x0.second))))) rfl ?_ ?_).trans rfl
  · intro rec acc
    simp [getZ_zero, goShare]
    rw [ifA_pos (by omega)]
  · intro rec k x acc hx hk hr
    simp only [Int.natCast_succ] at hr
    have hkk : (k : Int) < (t.length : Int) + 1 := by simp at hk; omega
    have hb : k ≤ 9223372036854775806 := by simp at h; omega
    have hLx := hL x (mem_at hx)
    obtain ⟨m, rfl⟩ : ∃ m : Nat, i = (m : Int) := ⟨i.toNat, by omega⟩
    have hm : m < x.lights.length := by rw [hLx.1, ← h00.1]; omega
    have hv : x.lights[m]? = some x.lights[m] := List.getElem?_eq_getElem hm
    have e : ∀ n : Int, getZ x.lights (m : Int) (fun p13 => cnd (p13 == 1) (rec (x0 :: t, (m : Int), u, W (acc + pos n), (k : Int) + 1)) (rec (x0 :: t, (m : Int), u, acc, (k : Int) + 1))) = rec (x0 :: t, (m : Int), u, (if x.lights[m]? = some 1 then W (acc + pos n) else acc), (k : Int) + 1) := by
      intro n
      rw [getZ_at hv, hv]
      by_cases c : x.lights[m] = 1 <;> simp [c, cnd_if]
    simp [hkk, getZ_at hx, W_n1 hb, sMin_v, sMax0, goShare]
    by_cases hn : k + 1 < (x0 :: t).length
    · have hy : (x0 :: t)[k + 1]? = some (x0 :: t)[k + 1] := List.getElem?_eq_getElem hn
      have hd : t.drop k = (x0 :: t)[k + 1] :: t.drop (k + 1) := by
        exact drop_next hy
      have hup : upto u (t.drop k) = (if (x0 :: t)[k + 1].second < u then (x0 :: t)[k + 1].second else u) := by rw [hd]; rfl
      have hkn : k < t.length := by simp at hn; omega
      have hz : ∀ K : Note → Option Int, getZ (x0 :: t) ((k : Int) + 1) K = K (x0 :: t)[k + 1] := fun K => getZ_at hy K
      simp only [hkn, decide_true, cnd_tt, hz, e]
      rw [hr]
      simp only [hup, Int.toNat_natCast, List.drop_succ_cons]
    · have hkn : ¬ k < t.length := by simp at hn; omega
      have hd : t.drop k = [] := by
        apply List.drop_eq_nil_of_le
        omega
      simp only [hkn, decide_false, cnd_ff, e]
      rw [hr]
      simp only [hd, upto, Int.toNat_natCast, List.drop_succ_cons]

def lightOf (e : Note) (i : Int) : Int := if 0 ≤ i then (match e.lights[i.toNat]? with | some v => v | none => -1) else -1
theorem ilightOf_v (e : Note) (i : Int) : S_ilightOf e i = some (lightOf e i) := by
  unfold S_ilightOf lightOf
  simp
  by_cases h : i < 0
  · simp [h, show ¬ 0 ≤ i by omega]
  obtain ⟨m, rfl⟩ : ∃ m : Nat, i = (m : Int) := ⟨i.toNat, by omega⟩
  by_cases h2 : m < e.lights.length
  · have hv : e.lights[m]? = some e.lights[m] := List.getElem?_eq_getElem h2
    simp [h2, getZ_at hv, hv, h, cnd_if]
    omega
  · simp [show e.lights.length ≤ m by omega, cnd_if]
theorem iOpenShare_v (l : List Note) (i u : Int) (h : Sm l ∧ ∀ y ∈ l, SmNote y) : S_iOpenShare l i u = some (openShare l i u) := by
  unfold S_iOpenShare
  simp [iIsRecord_v l h]
  obtain ⟨h, hs⟩ := h
  unfold Sm at h
  cases hR : isRecord l with
  | false => simp [openShare, hR]
  | true =>
  have hL := isRecord_len hR
  cases l with
  | nil => simp [openShare]
  | cons x0 t =>
  have h00 := hL x0 (List.mem_cons_self ..)
  simp [openShare, hR, getZ_zero, ilightOf_v]
  rw [show (((t.length : Int) + 1) == 0) = false by simp; omega, cnd_ff]
  by_cases c2 : i < 0
  · simp [c2, show ¬ 0 ≤ i by omega, lightOf]
  obtain ⟨m, rfl⟩ : ∃ m : Nat, i = (m : Int) := ⟨i.toNat, by omega⟩
  by_cases c3 : x0.lights.length ≤ m
  · simp [c3, lightOf, List.getElem?_eq_none c3]
  have hv0 : x0.lights[m]? = some x0.lights[m] := List.getElem?_eq_getElem (by omega)
  have hl0 : ¬ lightOf x0 m < 0 := by
    have := h00.2.2.2 _ (mem_at hv0)
    simp [lightOf, hv0]
    omega
  simp [hl0, c3]
  by_cases c1 : u ≤ x0.second
  · simp [c1]
  by_cases hu : (1000000 : Int) < u
  · simp [hu, cnd_if]
  simp [c1, hu]
  have hd : W (u - x0.second) = u - x0.second := W_id (by omega) (by omega)
  refine (iter_list0 (x0 :: t) (by omega) (fun k acc => (x0 :: t, (m : Int), u, acc, x0 :: t, (t.length : Int) + 1, (k : Int))) 0 (fun s _ acc => some (W (Int.tdiv (W (100 * goShare m u s acc)) (W (u - x0.second))))) rfl ?_ ?_).trans rfl
  · intro rec acc
    simp [getZ_zero, goShare]
    rw [ifA_pos (by omega)]
  · intro rec k x acc hx hk hr
    simp only [Int.natCast_succ] at hr
    have hkk : (k : Int) < (t.length : Int) + 1 := by simp at hk; omega
    have hb : k ≤ 9223372036854775806 := by simp at h; omega
    have hLx := hL x (mem_at hx)
    have hm : m < x.lights.length := by rw [hLx.1, ← h00.1]; omega
    have hv : x.lights[m]? = some x.lights[m] := List.getElem?_eq_getElem hm
    have e1 : ∀ n : Int, (if 0 < n then n else 0) = pos n := fun n => rfl
    have e : ∀ n : Int, cnd (lightOf x m == 1) (rec (x0 :: t, (m : Int), u, W (acc + pos n), x0 :: t, (t.length : Int) + 1, (k : Int) + 1)) (rec (x0 :: t, (m : Int), u, acc, x0 :: t, (t.length : Int) + 1, (k : Int) + 1)) = rec (x0 :: t, (m : Int), u, (if x.lights[m]? = some 1 then W (acc + pos n) else acc), x0 :: t, (t.length : Int) + 1, (k : Int) + 1) := by
      intro n
      have : lightOf x m = x.lights[m] := by simp [lightOf, hv]
      rw [this, hv]
      by_cases c : x.lights[m] = 1 <;> simp [c, cnd_if]
    simp [hkk, getZ_at hx, W_n1 hb, ilightOf_v, goShare, e1]
    by_cases hn : k + 1 < (x0 :: t).length
    · have hy : (x0 :: t)[k + 1]? = some (x0 :: t)[k + 1] := List.getElem?_eq_getElem hn
      have hd : t.drop k = (x0 :: t)[k + 1] :: t.drop (k + 1) := by
        exact drop_next hy
      have hup : upto u (t.drop k) = (if (x0 :: t)[k + 1].second < u then (x0 :: t)[k + 1].second else u) := by rw [hd]; rfl
      have hkn : k < t.length := by simp at hn; omega
      have hz : ∀ K : Note → Option Int, getZ (x0 :: t) ((k : Int) + 1) K = K (x0 :: t)[k + 1] := fun K => getZ_at hy K
      simp only [hkn, decide_true, cnd_tt, hz, e]
      rw [hr]
      simp only [hup, Int.toNat_natCast, List.drop_succ_cons]
    · have hkn : ¬ k < t.length := by simp at hn; omega
      have hd : t.drop k = [] := by
        apply List.drop_eq_nil_of_le
        omega
      simp only [hkn, decide_false, cnd_ff, e]
      rw [hr]
      simp only [hd, upto, Int.toNat_natCast, List.drop_succ_cons]

theorem lFnExactOpenShare_v (a : List Note) (i u : Int) (h : a.length ≤ maxLen ∧ ∀ y ∈ a, OkNote y) : S_lFnExactOpenShare a i u = some true := by
  obtain ⟨r, e, d⟩ := lszEntryS_v a h 1048576 (by decide) (by decide)
  unfold S_lFnExactOpenShare
  simp only [rws_note_ss, e, bnd_some]
  rcases d with d | ⟨_, _, hs⟩
  · simp [d]
  · simp [ltoEntryS_v a hs, sOpenShare_v a i u hs, iOpenShare_v a i u hs, leqEntryS_v a a hs, cnd_if]
end Go.Sh
