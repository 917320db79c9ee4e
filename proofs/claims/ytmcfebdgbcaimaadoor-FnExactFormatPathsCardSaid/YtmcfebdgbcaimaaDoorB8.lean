/- FormatReport, FormatPaths. -/
import Derived.Test.YtmcfebdgbcaimaaDoorB7
set_option linter.all false
namespace Go.Sh
open Go.Fx
theorem formatLights_size {l : List Int} (h : Sm l) : (formatLights l).size ≤ 1048577 := by
  have h1 := joined_size (l.map lightCh) (bs [])
  have h2 := tot_const l lightCh (bs []) 1 fun x _ => Nat.le_of_eq (lightCh_size x)
  unfold Sm at h
  simp [bs_size] at h2
  unfold formatLights
  omega
theorem reports_v (x : Report) (hr : OkReport x) : ∃ v, S_sFormatReport x = some v ∧ S_iFormatReport x = some v := by
  obtain ⟨k0, k1, k2, k3, k4⟩ := hr
  have hs : Sm [x.light] := by unfold Sm; simp
  have z0 := itoaB_size k0
  have z1 := itoaB_size k1
  have z2 := formatLights_size hs
  have z3 := itoaB_size k3
  have z4 := itoaB_size k4
  have e : ∀ K : List Int → Option ByteArray, rws iR [[I x.light]] K = K [x.light] := fun K => rfl
  unfold S_sFormatReport S_iFormatReport
  simp only [e, sFormatLights_v _ hs, iFormatLights_v _ hs, sFormatInt_v _ k0, iFormatInt_v _ k0, sFormatInt_v _ k1, iFormatInt_v _ k1, sFormatInt_v _ k3, iFormatInt_v _ k3, sFormatInt_v _ k4, iFormatInt_v _ k4, bnd_some, bs_eq, ByteArray.size_append, bs_size, List.length_cons, List.length_nil]
  refine ⟨itoaB x.path ++ bs [32] ++ itoaB x.second ++ bs [32] ++ formatLights [x.light] ++ bs [32] ++ itoaB x.since ++ bs [32] ++ itoaB x.other, ?_, ?_⟩ <;>
    rw [ifA_pos (by omega), ifA_pos (by omega), ifA_pos (by omega), ifA_pos (by omega), ifA_pos (by omega), ifA_pos (by omega), ifA_pos (by omega), ifA_pos (by omega)]
theorem lFnExactFormatReport_v (a : Report) (h : OkReport a) : S_lFnExactFormatReport a = some true := by
  obtain ⟨v, e1, e2⟩ := reports_v a h
  unfold S_lFnExactFormatReport S_ltoReport
  simp [e1, e2]
/-- a kind's letter -/
def kindCh (k : Int) : ByteArray := if k = 1 then bs [99] else if k = 2 then bs [119] else bs [98]
def pathText (p : Path) : ByteArray := if isPath p then itoaB p.id ++ kindCh p.kind ++ itoaB p.src ++ itoaB p.dst else bs []
theorem kindCh_size (k : Int) : (kindCh k).size = 1 := by
  unfold kindCh
  split <;> (try split) <;> rfl
theorem pathText_size {p : Path} (h : OkPath p) : (pathText p).size ≤ 64 := by
  obtain ⟨k0, k1, k2, k3⟩ := h
  have z0 := itoaB_size k0
  have z1 := itoaB_size k2
  have z2 := itoaB_size k3
  have z3 := kindCh_size p.kind
  unfold pathText
  split
  · simp only [ByteArray.size_append]; omega
  · exact Nat.zero_le _
theorem sPathText_v (p : Path) (h : OkPath p) : S_sPathText p = some (pathText p) := by
  obtain ⟨k0, k1, k2, k3⟩ := h
  have z0 := itoaB_size k0
  have z1 := itoaB_size k2
  have z2 := itoaB_size k3
  have z3 := kindCh_size p.kind
  unfold S_sPathText pathText
  rw [sIsPath_v, bnd_some]
  cases hp : isPath p with
  | false => rfl
  | true =>
    have e : ∀ K : ByteArray → Option ByteArray, geti sR [[Sg (ByteArray.mk (List.toArray []))], [Sg (ByteArray.mk (List.toArray [99]))], [Sg (ByteArray.mk (List.toArray [119]))], [Sg (ByteArray.mk (List.toArray [98]))]] p.kind K = K (kindCh p.kind) := by
      intro K
      rcases kind_of hp with e | e | e <;> rw [e] <;> rfl
    simp only [Bool.not_true, cnd_ff, e, sFormatInt_v _ k0, sFormatInt_v _ k2, sFormatInt_v _ k3, bnd_some, ByteArray.size_append, if_true]
    rw [ifA_pos (by omega), ifA_pos (by omega), ifA_pos (by omega)]
theorem iPathText_v (p : Path) (h : OkPath p) : S_iPathText p = some (pathText p) := by
  obtain ⟨k0, k1, k2, k3⟩ := h
  have z0 := itoaB_size k0
  have z1 := itoaB_size k2
  have z2 := itoaB_size k3
  have z3 := kindCh_size p.kind
  unfold S_iPathText pathText
  rw [iIsPath_v, bnd_some]
  cases hp : isPath p with
  | false => rfl
  | true =>
    have e : ByteArray.extract (ByteArray.mk (List.toArray [99, 119, 98])) (Int.toNat (W (p.kind - 1))) (Int.toNat p.kind) = kindCh p.kind := by
      rcases kind_of hp with e | e | e <;> rw [e] <;> rfl
    have hk : W (p.kind - 1) = p.kind - 1 := by
      have := kind_of hp
      exact W_id (by omega) (by omega)
    simp only [Bool.not_true, cnd_ff, e, iFormatInt_v _ k0, iFormatInt_v _ k2, iFormatInt_v _ k3, bnd_some, ByteArray.size_append, if_true]
    have := kind_of hp
    rw [hk, ifA_pos ⟨by omega, by omega, by show p.kind ≤ 3; omega⟩, ifA_pos (by omega), ifA_pos (by omega), ifA_pos (by omega)]
def formatPaths (l : List Path) : ByteArray := joined (l.map pathText) (bs [32])
theorem sFormatPaths_v (l : List Path) (h : Sm l) (hr : ∀ y ∈ l, OkPath y) : S_sFormatPaths l = some (formatPaths l) := by
  unfold Sm at h
  unfold S_sFormatPaths formatPaths
  simp
  refine (grow_loop l pathText (by omega) (fun k acc => (l, acc, (k : Int))) (fun a => S_sl39Join a (bs [32])) rfl ?_ ?_).trans ?_
  · intro rec acc ha
    simp
    rfl
  · intro rec k x acc hx hk ha
    simp [hk, getZ_at hx, sPathText_v x (hr x (mem_at hx)), W_n1 (show k ≤ 9223372036854775806 by omega), ha, show (k + 1) * 16 ≤ 140737488355328 by omega, show k ≤ 1152921504606846975 by omega]
  · refine sl39Join_v _ _ (by simp; omega) ?_
    have := tot_const l pathText (bs [32]) 64 fun x hx => pathText_size (hr x hx)
    simp [bs_size] at this
    omega
theorem iFormatPaths_v (l : List Path) (h : Sm l) (hr : ∀ y ∈ l, OkPath y) : S_iFormatPaths l = some (formatPaths l) := by
  unfold Sm at h
  unfold S_iFormatPaths formatPaths
  simp
  refine (grow_loop l pathText (by omega) (fun k acc => (acc, l, (l.length : Int), (k : Int))) (fun a => S_ijoined a (bs [32])) rfl ?_ ?_).trans ?_
  · intro rec acc ha
    simp
    rfl
  · intro rec k x acc hx hk ha
    simp [hk, getZ_at hx, iPathText_v x (hr x (mem_at hx)), W_n1 (show k ≤ 9223372036854775806 by omega), ha, show (k + 1) * 16 ≤ 140737488355328 by omega, show k ≤ 1152921504606846975 by omega]
  · refine ijoined_v _ _ (by simp; omega) ?_
    have := tot_const l pathText (bs [32]) 64 fun x hx => pathText_size (hr x hx)
    simp [bs_size] at this
    omega
theorem lFnExactFormatPaths_v (a : List Path) (h : a.length ≤ maxLen ∧ ∀ y ∈ a, OkPath y) : S_lFnExactFormatPaths a = some true := by
  obtain ⟨r, e, d⟩ := lszPathS_v a h 1048576 (by decide) (by decide)
  unfold S_lFnExactFormatPaths
  simp only [rws_path, e, bnd_some]
  rcases d with d | ⟨_, _, hs⟩
  · simp [d]
  · simp [ltoPathS_v a hs, sFormatPaths_v a hs h.2, iFormatPaths_v a hs h.2, leqPathS_v a a hs, cnd_if]
end Go.Sh
