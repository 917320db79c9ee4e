/- FormatPlan. -/
import Derived.Test.YteaoohmablanhaaDoorQ5
set_option linter.all false
namespace Go.Sh
open Go.Fx
def goSz : List Part → Int → Int
  | [], l => l
  | x :: r, l => if l - (x.stage.length : Int) < 0 then -1 else goSz r (l - (x.stage.length : Int))
def lens (a : List Part) : Nat := (a.map fun x => x.stage.length).sum
theorem lens_cons (x : Part) (a : List Part) : lens (x :: a) = x.stage.length + lens a := by simp [lens]
theorem goSz_le : ∀ (a : List Part) (l : Int), 0 ≤ goSz a l → (lens a : Int) ≤ l
  | [], l, h => by simpa [lens, goSz] using h
  | x :: a, l, h => by
    rw [goSz] at h
    rw [lens_cons]
    split at h
    · omega
    · have := goSz_le a _ h
      omega
theorem lszPartS_sum (a : List Part) (h : a.length ≤ maxLen ∧ ∀ y ∈ a, OkPart y) (left r : Int) (g0 : 0 ≤ left) (g1 : left ≤ 1048576) (e : S_lszPartS a left = some r) (hr : 0 ≤ r) : (lens a : Int) ≤ left := by
  unfold S_lszPartS at e
  have hm : a.length ≤ 9223372036854775807 := h.1
  simp only [rws_part_ss, len_part, geti_part_ss, rws_i, eta_Part] at e
  rw [W_id (by omega) (by omega)] at e
  by_cases hn : left - (a.length : Int) < 0
  · rw [show decide (left - (a.length : Int) < 0) = true by simpa using hn, cnd_tt] at e
    cases e; omega
  rw [show decide (left - (a.length : Int) < 0) = false by simpa using hn, cnd_ff] at e
  have key := iter_listJ (F := fun (rec3 : (List Part × (Int × Int)) → Option Int) (x4 : (List Part × (Int × Int))) => cnd (decide (x4.2.2 < (((x4.1.length) : Nat) : Int))) (getZ x4.1 x4.2.2 (fun (p5 : Part) => bnd (S_lszPart p5 x4.2.1) (fun (r6 : Int) => cnd (decide (r6 < 0)) (some (-1)) (rec3 (x4.1, r6, W (x4.2.2 + 1)))))) (some x4.2.1)) a (by omega) (fun k l => (a, l, (k : Int))) (left - (a.length : Int)) (fun _ l => 0 ≤ l ∧ l ≤ 1048576) (by omega) (fun s _ l => some (goSz s l)) (v := (a, left - (a.length : Int), 0)) rfl ?_ ?_
  · rw [e] at key
    cases key
    have := goSz_le a _ hr
    omega
  · intro rec l _
    simp [goSz]
  · intro rec k x l hJ hx hk hr'
    have hx2 := (h.2 x (mem_at hx)).1.1
    have hml : x.stage.length ≤ 9223372036854775807 := hx2
    have e1 : S_lszPart x l = some (if l - (x.stage.length : Int) < 0 then -1 else l - (x.stage.length : Int)) := by
      unfold S_lszPart S_lszIntS
      simp only [rws_i, len_i, bnd_some]
      rw [W_id (by omega) (by omega)]
      by_cases c : l - (x.stage.length : Int) < 0
      · simp [c]
      · simp [c]
    simp only [Int.natCast_succ] at hr'
    simp only [hk, getZ_at hx, e1, bnd_some, Int.ofNat_lt, decide_true, cnd_tt, W_n1 (show k ≤ 9223372036854775806 by omega), goSz]
    by_cases c : l - (x.stage.length : Int) < 0
    · simp [c]
    · simp only [c, if_false, decide_false, cnd_ff]
      exact hr' _ ⟨by omega, by omega⟩
def partText (x : Part) : ByteArray := formatNumbers x.stage ++ bs [58] ++ itoaB x.green
def formatPlan (l : List Part) : ByteArray := joined (l.map partText) (bs [32, 124, 32])
theorem partText_size {x : Part} (h : SmPart x) (hr : OkPart x) : (partText x).size ≤ 22 * x.stage.length + 23 := by
  have h1 := joined_size (x.stage.map itoaB) (bs [32])
  have h2 := tot_const x.stage itoaB (bs [32]) 21 fun y hy => itoaB_size (hr.1.2 y hy)
  have h3 := itoaB_size hr.2
  have h4 : (bs [32]).size = 1 := rfl
  have h5 : (bs [58]).size = 1 := rfl
  rw [h4, show 21 + 1 = 22 from rfl, Nat.mul_comm] at h2
  unfold partText formatNumbers
  rw [ByteArray.size_append, ByteArray.size_append]
  omega
theorem tot_part (b : ByteArray) : ∀ (l : List Part), (∀ y ∈ l, SmPart y) → (∀ y ∈ l, OkPart y) → tot (l.map partText) b ≤ 22 * lens l + l.length * (23 + b.size)
  | [], _, _ => by simp [tot]
  | x :: l, h, hr => by
    rw [List.map_cons, tot_cons, lens_cons, List.length_cons, show (l.length + 1) * (23 + b.size) = l.length * (23 + b.size) + (23 + b.size) from Nat.succ_mul _ _]
    have := tot_part b l (fun y hy => h y (List.mem_cons_of_mem _ hy)) (fun y hy => hr y (List.mem_cons_of_mem _ hy))
    have := partText_size (h x (List.mem_cons_self ..)) (hr x (List.mem_cons_self ..))
    omega
theorem plans_v (l : List Part) (h : Sm l ∧ ∀ y ∈ l, SmPart y) (hr : ∀ y ∈ l, OkPart y) (hs : lens l ≤ 1048576) : S_sFormatPlan l = some (formatPlan l) ∧ S_iFormatPlan l = some (formatPlan l) := by
  obtain ⟨hl, he⟩ := h
  unfold Sm at hl
  have ht := tot_part (bs [32, 124, 32]) l he hr
  have hb : (bs [32, 124, 32]).size = 3 := rfl
  rw [hb] at ht
  have step : ∀ x ∈ l, ((formatNumbers x.stage).size + 1 ≤ 1099511627776) ∧ ((formatNumbers x.stage ++ bs [58]).size + (itoaB x.green).size ≤ 1099511627776) := by
    intro x hx
    have h1 := formatNumbers_size (he x hx) (hr x hx).1.2
    have h3 := itoaB_size (hr x hx).2
    have h5 : (bs [58]).size = 1 := rfl
    rw [ByteArray.size_append]
    omega
  constructor
  · unfold S_sFormatPlan formatPlan
    simp
    refine (grow_loop l partText (by omega) (fun k acc => (l, acc, (k : Int))) (fun a => S_sl39Join a (bs [32, 124, 32])) rfl ?_ ?_).trans ?_
    · intro rec acc ha
      simp
      rfl
    · intro rec k x acc hx hk ha
      obtain ⟨s1, s2⟩ := step x (mem_at hx)
      simp [hk, getZ_at hx, sFormatNumbers_v _ (he x (mem_at hx)) (hr x (mem_at hx)).1.2, sFormatInt_v _ (hr x (mem_at hx)).2, W_n1 (show k ≤ 9223372036854775806 by omega), ha, show (k + 1) * 16 ≤ 140737488355328 by omega, show k ≤ 1152921504606846975 by omega, bs_eq, bs_size, s1]
      simp [ByteArray.size_append, bs_size] at s2
      simp [s2, partText]
      rw [ifA_pos (by omega)]
    · exact sl39Join_v _ _ (by simp; omega) (by omega)
  · unfold S_iFormatPlan formatPlan
    simp
    refine (grow_loop l partText (by omega) (fun k acc => (acc, l, (l.length : Int), (k : Int))) (fun a => S_ijoined a (bs [32, 124, 32])) rfl ?_ ?_).trans ?_
    · intro rec acc ha
      simp
      rfl
    · intro rec k x acc hx hk ha
      obtain ⟨s1, s2⟩ := step x (mem_at hx)
      simp [hk, getZ_at hx, iFormatNumbers_v _ (he x (mem_at hx)) (hr x (mem_at hx)).1.2, iFormatInt_v _ (hr x (mem_at hx)).2, W_n1 (show k ≤ 9223372036854775806 by omega), ha, show (k + 1) * 16 ≤ 140737488355328 by omega, show k ≤ 1152921504606846975 by omega, bs_eq, bs_size, s1]
      simp [ByteArray.size_append, bs_size] at s2
      simp [s2, partText]
      rw [ifA_pos (by omega)]
    · exact ijoined_v _ _ (by simp; omega) (by omega)
theorem lFnExactFormatPlan_v (a : List Part) (h : a.length ≤ maxLen ∧ ∀ y ∈ a, OkPart y) : S_lFnExactFormatPlan a = some true := by
  obtain ⟨r, e, d⟩ := lszPartS_v a h 1048576 (by decide) (by decide)
  unfold S_lFnExactFormatPlan
  rcases d with d | ⟨_, _, hs⟩
  · simp [e, d]
  · by_cases hn : r < 0
    · simp [e, hn]
    have hsum := lszPartS_sum a h 1048576 r (by decide) (by decide) e (by omega)
    obtain ⟨e1, e2⟩ := plans_v a hs h.2 (by omega)
    simp [e, show ¬ r < 0 by omega, ltoPartS_v a hs, e1, e2, leqPartS_v a a hs, cnd_if]
end Go.Sh
