/- FormatControl. -/
import Derived.Test.YtmcfebdgbcaimaaDoorB6
set_option linter.all false
namespace Go.Sh
open Go.Fx
theorem joined_size (l : List ByteArray) (b : ByteArray) : (joined l b).size ≤ tot l b + 1 := by
  cases l with
  | nil => exact Nat.le_of_eq rfl
  | cons x r =>
    show (jn x b r).size ≤ _
    rw [jn_size, tot_cons]; omega
theorem formatNumbers_size {l : List Int} (h : Sm l) (hr : ∀ y ∈ l, Rg y) : (formatNumbers l).size ≤ 23068673 := by
  have h1 := joined_size (l.map itoaB) (bs [32])
  have h2 := tot_const l itoaB (bs [32]) 21 fun x hx => itoaB_size (hr x hx)
  unfold Sm at h
  simp [bs_size] at h2
  unfold formatNumbers
  omega
theorem controls_v (x : Control) (h : SmControl x) (hr : OkControl x) : ∃ v, S_sFormatControl x = some v ∧ S_iFormatControl x = some v := by
  obtain ⟨h0, h1⟩ := h
  obtain ⟨k0, k1, k2, k3⟩ := hr
  have z0 := formatNumbers_size h0 k0.2
  have z1 := itoaB_size k1
  have z2 := formatNumbers_size h1 k2.2
  have z3 := itoaB_size k3
  unfold S_sFormatControl S_iFormatControl
  simp only [rws_i, len_i, sFormatNumbers_v _ h0 k0.2, iFormatNumbers_v _ h0 k0.2, sFormatNumbers_v _ h1 k2.2, iFormatNumbers_v _ h1 k2.2, sFormatInt_v _ k1, iFormatInt_v _ k1, sFormatInt_v _ k3, iFormatInt_v _ k3, bnd_some, bs_eq, ByteArray.size_append, bs_size, List.length_cons, List.length_nil]
  simp only [ifA_pos (show (formatNumbers x.stage).size + (0 + 1 + 1 + 1) ≤ 1099511627776 by omega), ifA_pos (show (formatNumbers x.stage).size + (0 + 1 + 1 + 1) + (itoaB x.since).size ≤ 1099511627776 by omega)]
  by_cases c : ((x.next.length : Nat) : Int) > 0
  · simp only [c, decide_true, cnd_tt]
    refine ⟨formatNumbers x.stage ++ bs [32, 64, 32] ++ itoaB x.since ++ (bs [32, 62, 32] ++ formatNumbers x.next ++ bs [32, 105, 110, 32] ++ itoaB x.left), ?_, ?_⟩
    · rw [ifA_pos (by omega), ifA_pos (by omega), ifA_pos (by omega), ifA_pos (by omega)]
      simp only [ByteArray.append_assoc]
    · rw [ifA_pos (by omega), ifA_pos (by omega), ifA_pos (by omega), ifA_pos (by omega)]
  · simp only [c, decide_false, cnd_ff]
    exact ⟨_, rfl, rfl⟩
theorem lFnExactFormatControl_v (a : Control) (h : OkControl a) : S_lFnExactFormatControl a = some true := by
  obtain ⟨r, e, d⟩ := lszControl_v a h 1048576 (by decide) (by decide)
  unfold S_lFnExactFormatControl
  simp only [rws_i, eta_Control]
  rcases d with d | ⟨_, _, hs⟩
  · simp [e, d]
  · obtain ⟨v, e1, e2⟩ := controls_v a hs h
    simp [e, show ¬ r < 0 by omega, ltoControl_v a hs, e1, e2, leqControl_v a a hs, cnd_if]
end Go.Sh
