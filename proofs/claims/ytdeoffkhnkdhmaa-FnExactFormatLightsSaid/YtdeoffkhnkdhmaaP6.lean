/- FormatLights. -/
import Derived.Test.YtdeoffkhnkdhmaaP5
set_option linter.all false
namespace Go.Sh
open Go.Fx

@[simp] theorem bnd_id {α : Type} (x : Option α) : bnd x (fun r => some r) = x := by cases x <;> rfl
@[simp] theorem rws_app_s {β : Type} (l : List ByteArray) (s : ByteArray) (K : List ByteArray → Option β) : rws sR (l.map sR.enc ++ [[Sg s]]) K = K (l ++ [s]) :=
  (congrArg (fun z => rws sR z K) (List.map_append (f := sR.enc) (l₁ := l) (l₂ := [s])).symm).trans (rws_enc sR (l ++ [s]) K)
@[simp] theorem rws_app_i {β : Type} (l : List Int) (s : Int) (K : List Int → Option β) : rws iR (l.map iR.enc ++ [[I s]]) K = K (l ++ [s]) :=
  (congrArg (fun z => rws iR z K) (List.map_append (f := iR.enc) (l₁ := l) (l₂ := [s])).symm).trans (rws_enc iR (l ++ [s]) K)

/-- a list of texts that grows one by one -/
theorem grow_loop {α V β : Type} (l : List α) (f : α → ByteArray) (hl : l.length ≤ 1099511627776) (st : Nat → List ByteArray → V) (K : List ByteArray → Option β) {F : (V → Option β) → V → Option β} {v : V} (hv : v = st 0 [])
    (h0 : ∀ rec acc, acc.length = l.length → F rec (st l.length acc) = K acc)
    (h1 : ∀ rec k x acc, l[k]? = some x → k < l.length → acc.length = k → F rec (st k acc) = rec (st (k + 1) (acc ++ [f x]))) : iter F NN v = K (l.map f) := by
  refine (iter_listJ l (by omega) st [] (fun k acc => acc.length = k) rfl (fun s _ acc => K (acc ++ s.map f)) hv ?_ ?_).trans (by simp)
  · intro rec acc h
    rw [h0 rec acc h]
    simp
  · intro rec k x acc h hx hk hr
    rw [h1 rec k x acc hx hk h, hr _ (by simp [h])]
    simp
def lightCh (v : Int) : ByteArray := if v = 0 then bs [114] else if v = 1 then bs [103] else if v = 2 then bs [99] else bs [46]
theorem lightCh_size (v : Int) : (lightCh v).size = 1 := by
  unfold lightCh
  split <;> (try split) <;> (try split) <;> rfl
theorem tot_const {α : Type} (l : List α) (f : α → ByteArray) (b : ByteArray) (n : Nat) (h : ∀ x ∈ l, (f x).size ≤ n) : tot (l.map f) b ≤ l.length * (n + b.size) := by
  induction l with
  | nil => simp [tot]
  | cons x l ih =>
    rw [List.map_cons, tot_cons, List.length_cons, Nat.succ_mul]
    have := ih fun y hy => h y (List.mem_cons_of_mem _ hy)
    have := h x (List.mem_cons_self ..)
    omega
def formatLights (l : List Int) : ByteArray := joined (l.map lightCh) (bs [])
theorem sFormatLights_v (l : List Int) (h : Sm l) : S_sFormatLights l = some (formatLights l) := by
  unfold Sm at h
  unfold S_sFormatLights formatLights
  simp
  refine (grow_loop l lightCh (by omega) (fun k acc => (l, acc, (k : Int))) (fun a => S_sl39Join a (bs [])) rfl ?_ ?_).trans ?_
  · intro rec acc ha
    simp
    rfl
  · intro rec k x acc hx hk ha
    simp [hk, getZ_at hx, sl1In_v, W_n1 (show k ≤ 9223372036854775806 by omega), ha, show (k + 1) * 16 ≤ 140737488355328 by omega, show k ≤ 1152921504606846975 by omega]
    by_cases h0 : 0 ≤ x
    · by_cases h2 : x ≤ 2
      · rw [W_id (by omega) (by omega)]
        simp [h0, h2]
        rw [ifA_pos ⟨by omega, by show x + 1 ≤ 3; omega⟩]
        have : x = 0 ∨ x = 1 ∨ x = 2 := by omega
        rcases this with rfl | rfl | rfl <;> rfl
      · simp [h2]
        rw [show lightCh x = bs [46] by simp [lightCh, show x ≠ 0 by omega, show x ≠ 1 by omega, show x ≠ 2 by omega]]
        rfl
    · simp [h0]
      rw [show lightCh x = bs [46] by simp [lightCh, show x ≠ 0 by omega, show x ≠ 1 by omega, show x ≠ 2 by omega]]
      rfl
  · refine sl39Join_v _ _ (by simp; omega) ?_
    have := tot_const l lightCh (bs []) 1 fun x _ => Nat.le_of_eq (lightCh_size x)
    simp [bs_size] at this
    omega
theorem iFormatLights_v (l : List Int) (h : Sm l) : S_iFormatLights l = some (formatLights l) := by
  unfold Sm at h
  unfold S_iFormatLights formatLights
  simp
  refine (grow_loop l lightCh (by omega) (fun k acc => (acc, l, (l.length : Int), (k : Int))) (fun a => S_ijoined a (bs [])) rfl ?_ ?_).trans ?_
  · intro rec acc ha
    simp
    rfl
  · intro rec k x acc hx hk ha
    simp [hk, getZ_at hx, W_n1 (show k ≤ 9223372036854775806 by omega), ha, show (k + 1) * 16 ≤ 140737488355328 by omega, show k ≤ 1152921504606846975 by omega]
    by_cases e0 : x = 0
    · simp [e0, lightCh, bs]
    by_cases e1 : x = 1
    · simp [e1, lightCh, bs]
    by_cases e2 : x = 2
    · simp [e2, lightCh, bs]
    simp [e0, e1, e2, lightCh, cnd_if, bs]
  · refine ijoined_v _ _ (by simp; omega) ?_
    have := tot_const l lightCh (bs []) 1 fun x _ => Nat.le_of_eq (lightCh_size x)
    simp [bs_size] at this
    omega
theorem lFnExactFormatLights_v (a : List Int) : S_lFnExactFormatLights a = some true := by
  unfold S_lFnExactFormatLights
  simp only [len_i]
  by_cases h : (a.length : Int) > 1048576
  · simp [h]
  · have hs : Sm a := by unfold Sm; omega
    simp [h, ltoIntS_v a hs, sFormatLights_v a hs, iFormatLights_v a hs, leqIntS_v a a hs, cnd_if]
end Go.Sh
