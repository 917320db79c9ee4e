/- Numbers' texts. -/
import Derived.Test.YtmcfebdgbcaimaaDoorQD
import Derived.Lib.ItoaLen
set_option linter.all false
namespace Go.Sh
open Go.Fx
theorem rg_of {n : Int} (h : Rg n) : -9223372036854775808 ≤ n ∧ n ≤ 9223372036854775807 := h
theorem iFormatInt_v (n : Int) (h : Rg n) : S_iFormatInt n = some (itoaB n) := by
  unfold S_iFormatInt S_strconv_Itoa
  rw [ifA_pos (rg_of h)]
  rfl
/-- the digits ahead of a text -/
def dig : Nat → ByteArray → ByteArray
  | u, s => if h : u = 0 then s else dig (u / 10) (bs [UInt8.ofNat (48 + u % 10)] ++ s)
termination_by u => u
decreasing_by omega
theorem dig_zero (s : ByteArray) : dig 0 s = s := by rw [dig]; simp
theorem dig_pos {u : Nat} (h : u ≠ 0) (s : ByteArray) : dig u s = dig (u / 10) (bs [UInt8.ofNat (48 + u % 10)] ++ s) := by rw [dig]; simp [h]
theorem dig_data : ∀ (u : Nat) (s : ByteArray), u ≠ 0 → (dig u s).data.toList = Lib.decDigits u ++ s.data.toList := by
  intro u
  induction u using Nat.strongRecOn with
  | _ u ih =>
    intro s h
    rw [dig_pos h]
    by_cases hs : u < 10
    · rw [show u / 10 = 0 by omega, dig_zero, Lib.decDigits, dif_pos hs, show u % 10 = u by omega]
      simp [bs]
    · rw [ih (u / 10) (by omega) _ (by omega), Lib.decDigits.eq_1 u, dif_neg hs]
      simp [bs]
theorem bst_one (n : Int) {β : Type} (K : ByteArray → Option β) : bst [[AV.lit (.int .u8 n)]] K = K (bs [UInt8.ofNat n.toNat]) := rfl
theorem wrap8 {n : Int} (h : 0 ≤ n) (h' : n ≤ 255) : IntKind.u8.wrap n = n := by
  have e : IntKind.u8.wrap n = n % 256 := by
    unfold IntKind.wrap
    rw [show IntKind.u8.signed = false from rfl, show IntKind.u8.bits = 8 from rfl]
    simp
  rw [e]
  omega
theorem tmod10 (x : Int) : (Int.tmod x 10).natAbs = x.natAbs % 10 ∧ (0 ≤ x → 0 ≤ Int.tmod x 10) ∧ (x ≤ 0 → Int.tmod x 10 ≤ 0) := by
  refine ⟨by rw [Int.natAbs_tmod]; rfl, fun h => Int.tmod_nonneg 10 h, fun h => ?_⟩
  have := Int.tmod_nonneg 10 (show 0 ≤ -x by omega)
  rw [Int.neg_tmod] at this
  omega
theorem tdiv10 (x : Int) : (Int.tdiv x 10).natAbs = x.natAbs / 10 ∧ (0 ≤ x → 0 ≤ Int.tdiv x 10) ∧ (x ≤ 0 → Int.tdiv x 10 ≤ 0) := by
  refine ⟨by rw [Int.natAbs_tdiv]; rfl, fun h => Int.tdiv_nonneg h (by decide), fun h => ?_⟩
  have := Int.tdiv_nonneg (show 0 ≤ -x by omega) (show (0 : Int) ≤ 10 by decide)
  rw [Int.neg_tdiv] at this
  omega
theorem minus_data (s : ByteArray) : (bs [45] ++ s).data.toList = 45 :: s.data.toList := by simp [bs]
theorem itoaB_eq {n : Int} (h : n ≠ 0) : itoaB n = if n < 0 then bs [45] ++ dig n.natAbs (bs []) else dig n.natAbs (bs []) := by
  have hd : ∀ u, u ≠ 0 → (dig u (bs [])).data.toList = Lib.decDigits u := fun u hu => by rw [dig_data u _ hu]; simp [bs]
  have key : (itoaB n).data.toList = (if n < 0 then bs [45] ++ dig n.natAbs (bs []) else dig n.natAbs (bs [])).data.toList := by
    show (Lib.itoa n).toArray.toList = _
    unfold Lib.itoa
    split
    · rw [minus_data, hd _ (by omega)]
    · rw [hd _ (by omega), show n.toNat = n.natAbs by omega]
  exact ByteArray.ext (Array.toList_inj.1 key)
theorem sFormatInt_v (n : Int) (h : Rg n) : S_sFormatInt n = some (itoaB n) := by
  obtain ⟨h0, h1⟩ := rg_of h
  unfold S_sFormatInt
  by_cases hz : n = 0
  · subst hz
    have : itoaB 0 = bs [48] := by
      unfold itoaB Lib.itoa
      rw [if_neg (by decide), Lib.decDigits, dif_pos (by decide)]
      rfl
    rw [this]; rfl
  rw [show (n == 0) = false by simpa using hz, cnd_ff, itoaB_eq hz]
  refine (iter_ind (R := fun v : Int × ByteArray × Int => some (if v.1 < 0 then bs [45] ++ dig v.2.2.natAbs v.2.1 else dig v.2.2.natAbs v.2.1)) (fun v => 20 - v.2.1.size)
    (fun v => v.2.1.size ≤ 19 ∧ 10 ^ v.2.1.size * v.2.2.natAbs ≤ 9223372036854775808) ?_ NN (n, bs [], n) ⟨by simp [bs_size], by simp [bs_size]; omega⟩ (by rw [NN_eq]; simp [bs_size])).trans rfl
  rintro rec ⟨m, s, x⟩ ⟨i1, i2⟩ hr
  simp only at i1 i2 hr ⊢
  by_cases hx : x = 0
  · subst hx
    simp [dig_zero]
    by_cases hm : m < 0
    · simp [hm]
      rw [ifA_pos (by show 1 + s.size ≤ _; omega)]
      rfl
    · simp [hm]
  · rw [show (x != 0) = true by simpa using hx, cnd_tt]
    have hs18 : s.size ≤ 18 := by
      refine Nat.le_of_not_lt fun hlt => ?_
      have h19 : 10 ^ 19 ≤ 10 ^ s.size := Nat.pow_le_pow_right (by decide) hlt
      have : 10 ^ s.size * 1 ≤ 10 ^ s.size * x.natAbs := Nat.mul_le_mul_left _ (by omega)
      omega
    obtain ⟨a1, a2, a3⟩ := tmod10 x
    obtain ⟨b1, b2, b3⟩ := tdiv10 x
    have hxb : x.natAbs ≤ 9223372036854775808 := by
      have : 1 * x.natAbs ≤ 10 ^ s.size * x.natAbs := Nat.mul_le_mul_right _ (Nat.pow_pos (by decide))
      omega
    have hW : W (Int.tdiv x 10) = Int.tdiv x 10 := W_id (by omega) (by omega)
    have hrec : ∀ d : UInt8, d = UInt8.ofNat (48 + x.natAbs % 10) → ifA ((bs [d]).size + s.size ≤ 1099511627776) (rec (m, bs [d] ++ s, W (Int.tdiv x 10))) = some (if m < 0 then bs [45] ++ dig x.natAbs s else dig x.natAbs s) := by
      rintro d rfl
      rw [ifA_pos (by show 1 + s.size ≤ _; omega), hW, hr (m, _, Int.tdiv x 10) ⟨by simp [ByteArray.size_append, bs_size]; omega, ?_⟩ (by simp only [ByteArray.size_append, bs_size, List.length_singleton]; omega), dig_pos (u := x.natAbs) (by omega), b1]
      simp only [ByteArray.size_append, bs_size, b1]
      have e : 10 ^ ([UInt8.ofNat (48 + x.natAbs % 10)].length + s.size) = 10 ^ s.size * 10 := by rw [List.length_singleton, Nat.add_comm, Nat.pow_succ]
      rw [e, Nat.mul_assoc]
      exact Nat.le_trans (Nat.mul_le_mul_left _ (Nat.mul_div_le _ _)) i2
    by_cases hd : Int.tmod x 10 < 0
    · rw [show decide (Int.tmod x 10 < 0) = true by simpa using hd, cnd_tt, W_id (n := 0 - Int.tmod x 10) (by omega) (by omega), W_id (by omega) (by omega), wrap8 (by omega) (by omega), bst_one]
      exact hrec _ (by congr 1; omega)
    · rw [show decide (Int.tmod x 10 < 0) = false by simpa using hd, cnd_ff, W_id (by omega) (by omega), wrap8 (by omega) (by omega), bst_one]
      exact hrec _ (by congr 1; omega)
theorem itoaB_size {n : Int} (h : Rg n) : (itoaB n).size ≤ 21 := Lib.itoa_length_le n h.1 h.2
def formatNumbers (l : List Int) : ByteArray := joined (l.map itoaB) (bs [32])
theorem sFormatNumbers_v (l : List Int) (h : Sm l) (hr : ∀ y ∈ l, Rg y) : S_sFormatNumbers l = some (formatNumbers l) := by
  unfold Sm at h
  unfold S_sFormatNumbers formatNumbers
  simp
  refine (grow_loop l itoaB (by omega) (fun k acc => (l, acc, (k : Int))) (fun a => S_sl39Join a (bs [32])) rfl ?_ ?_).trans ?_
  · intro rec acc ha
    simp
    rfl
  · intro rec k x acc hx hk ha
    simp [hk, getZ_at hx, sFormatInt_v x (hr x (mem_at hx)), W_n1 (show k ≤ 9223372036854775806 by omega), ha, show (k + 1) * 16 ≤ 140737488355328 by omega, show k ≤ 1152921504606846975 by omega]
  · refine sl39Join_v _ _ (by simp; omega) ?_
    have := tot_const l itoaB (bs [32]) 21 fun x hx => itoaB_size (hr x hx)
    simp [bs_size] at this
    omega
theorem iFormatNumbers_v (l : List Int) (h : Sm l) (hr : ∀ y ∈ l, Rg y) : S_iFormatNumbers l = some (formatNumbers l) := by
  unfold Sm at h
  unfold S_iFormatNumbers formatNumbers
  simp
  refine (grow_loop l itoaB (by omega) (fun k acc => (acc, l, (l.length : Int), (k : Int))) (fun a => S_ijoined a (bs [32])) rfl ?_ ?_).trans ?_
  · intro rec acc ha
    simp
    rfl
  · intro rec k x acc hx hk ha
    simp [hk, getZ_at hx, iFormatInt_v x (hr x (mem_at hx)), W_n1 (show k ≤ 9223372036854775806 by omega), ha, show (k + 1) * 16 ≤ 140737488355328 by omega, show k ≤ 1152921504606846975 by omega]
  · refine ijoined_v _ _ (by simp; omega) ?_
    have := tot_const l itoaB (bs [32]) 21 fun x hx => itoaB_size (hr x hx)
    simp [bs_size] at this
    omega
theorem lFnExactFormatNumbers_v (a : List Int) (h : a.length ≤ maxLen ∧ ∀ y ∈ a, Rg y) : S_lFnExactFormatNumbers a = some true := by
  unfold S_lFnExactFormatNumbers
  simp only [len_i]
  by_cases hl : (a.length : Int) > 1048576
  · simp [hl]
  · have hs : Sm a := by unfold Sm; omega
    simp [hl, ltoIntS_v a hs, sFormatNumbers_v a hs h.2, iFormatNumbers_v a hs h.2, leqIntS_v a a hs, cnd_if]
end Go.Sh
