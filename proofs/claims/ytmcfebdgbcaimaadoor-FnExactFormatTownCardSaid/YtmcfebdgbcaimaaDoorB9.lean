/- FormatTown. -/
import Derived.Test.YtmcfebdgbcaimaaDoorQE
set_option linter.all false
namespace Go.Sh
open Go.Fx
theorem mode_cases (l : List Path) (x : List Lamp) (p : Bool) : mode l x p = 0 ∨ mode l x p = 1 ∨ mode l x p = 2 := by
  unfold mode
  split
  · simp
  · split
    · simp
    · split <;> simp
def modeName (m : Int) : ByteArray := if m = 0 then bs [102, 117, 108, 108] else if m = 1 then bs [98, 108, 105, 110, 107] else bs [100, 97, 114, 107]
theorem modeName_size (m : Int) : (modeName m).size ≤ 5 := by
  unfold modeName
  split
  · decide
  · split <;> decide
theorem sModeName_v {m : Int} (h : m = 0 ∨ m = 1 ∨ m = 2) : S_sModeName m = some (modeName m) := by
  rcases h with rfl | rfl | rfl <;> rfl
theorem iModeName_v {m : Int} (h : m = 0 ∨ m = 1 ∨ m = 2) : S_iModeName m = some (modeName m) := by
  rcases h with rfl | rfl | rfl <;> rfl
theorem rg_len {α : Type} {l : List α} (h : Sm l) : Rg (l.length : Int) := by
  unfold Sm at h
  exact ⟨by omega, by omega⟩
theorem towns_v (t : Town) (h : SmTown t) (hr : OkTown t) : ∃ v, S_sFormatTown t = some v ∧ S_iFormatTown t = some v := by
  obtain ⟨h0, h1, h2, h3, h4⟩ := h
  have kb : Rg t.books := by unfold OkTown at hr; exact hr.2.2.2.2.2.2.2.1
  have kn : Rg t.now := by unfold OkTown at hr; exact hr.2.2.2.2.2.2.2.2
  have hm := mode_cases t.paths t.lamps t.power
  have e1 : S_sModeOf t = some (mode t.paths t.lamps t.power) := by unfold S_sModeOf; simp [sModeFor_v _ _ _ h0 h3]
  have e2 : S_iModeOf t = some (mode t.paths t.lamps t.power) := by unfold S_iModeOf; simp [iModeFor_v _ _ _ h0 h3]
  have hs : Sm [(t.paths.length : Int), (t.wants.length : Int), (t.record.length : Int), t.books] := by unfold Sm; simp
  have hrg : ∀ y ∈ [(t.paths.length : Int), (t.wants.length : Int), (t.record.length : Int), t.books], Rg y := by
    intro y hy
    simp only [List.mem_cons, List.not_mem_nil, or_false] at hy
    rcases hy with rfl | rfl | rfl | rfl
    · exact rg_len h0
    · exact rg_len h2
    · exact rg_len h4.1
    · exact kb
  have z0 := itoaB_size kn
  have z1 := modeName_size (mode t.paths t.lamps t.power)
  have z2 := formatNumbers_size hs hrg
  have e : ∀ (a b c d : Int) (K : List Int → Option ByteArray), rws iR [[I a], [I b], [I c], [I d]] K = K [a, b, c, d] := fun _ _ _ _ _ => rfl
  unfold S_sFormatTown S_iFormatTown
  simp only [rws_i, rws_path, rws_want, rws_lamp, rws_note_ss, len_path, len_want, len_note, eta_Control, eta_Town, e, e1, e2, sModeName_v hm, iModeName_v hm, sFormatInt_v _ kn, iFormatInt_v _ kn, sFormatNumbers_v _ hs hrg, iFormatNumbers_v _ hs hrg, bnd_some, bs_eq, ByteArray.size_append, bs_size, List.length_cons, List.length_nil]
  refine ⟨itoaB t.now ++ bs [32] ++ modeName (mode t.paths t.lamps t.power) ++ bs [32] ++ formatNumbers [(t.paths.length : Int), (t.wants.length : Int), (t.record.length : Int), t.books], ?_, ?_⟩ <;>
    rw [ifA_pos (by omega), ifA_pos (by omega), ifA_pos (by omega), ifA_pos (by omega)]
theorem lFnExactFormatTown_v (a : Town) (h : OkTown a) : S_lFnExactFormatTown a = some true := by
  obtain ⟨r, e, d⟩ := lszTown_v a h 1048576 (by decide) (by decide)
  unfold S_lFnExactFormatTown
  simp only [rws_note_ss, eta_Control, eta_Town]
  rcases d with d | ⟨_, _, hs⟩
  · simp [e, d]
  · obtain ⟨v, e1, e2⟩ := towns_v a hs h
    simp [e, show ¬ r < 0 by omega, ltoTown_v a hs, e1, e2, leqTown_v a a hs, cnd_if]
end Go.Sh
