/- FnEvents: drawn paths, and the law. -/
import Derived.Test.YtkbhcieejpbjpaaGreatN5
set_option linter.all false
namespace Go.Sh
open Go.Fx
theorem beq_ba (a b : ByteArray) : (ByteArray.toList a == ByteArray.toList b) = decide (a = b) := by
  rw [ByteArray.toList_eq, ByteArray.toList_eq]
  by_cases h : a = b
  · subst h; simp
  · have : a.data ≠ b.data := fun e => h (by cases a; cases b; simp only at e; subst e; rfl)
    simp [h, this]
theorem sl4Raw_g {g : L1Cur} (h : CurOk g) : Gives (S_sl4Raw g) fun _ => True := by
  unfold S_sl4Raw
  simp only [rws_y, eta_L1Cur]
  obtain ⟨k, g1, e1, _, hg1⟩ := sl1Int_g h (l := [Neg.neg 1, 0, 4, 7, 20, 21, 9223372036854775807, Neg.neg 9223372036854775808]) (by simp) (by simp) (P := fun _ => True) (fun _ _ => trivial)
  rw [e1, bnd_some]
  exact ⟨_, _, rfl, trivial, hg1⟩
theorem sl4Any_g {g : L1Cur} (h : CurOk g) : Gives (S_sl4Any g) fun _ => True := by
  unfold S_sl4Any
  simp only [rws_y, eta_L1Cur]
  obtain ⟨k, g1, e1, _, hg1⟩ := sl1Below_g h (n := 20) (by omega)
  rw [e1, bnd_some]
  obtain ⟨p, g2, e2, _, hg2⟩ := sl4Draw_g hg1 (W (1 + k))
  rw [e2, bnd_some]
  obtain ⟨m, g3, e3, _, hg3⟩ := sl1Below_g hg2 (n := 10) (by omega)
  rw [e3, bnd_some]
  obtain ⟨a, g4, e4, _, hg4⟩ := sl1Int_g hg3 (l := [0, 20, 21]) (by simp) (by simp) (P := fun _ => True) (fun _ _ => trivial)
  obtain ⟨b, g5, e5, _, hg5⟩ := sl1Int_g hg3 (l := [0, 2, 4]) (by simp) (by simp) (P := fun _ => True) (fun _ _ => trivial)
  obtain ⟨c, g6, e6, _, hg6⟩ := sl4Raw_g hg3
  simp only [e4, e5, e6, bnd_some, cnd_if]
  split
  · exact ⟨_, _, rfl, trivial, hg4⟩
  split
  · exact ⟨_, _, rfl, trivial, hg5⟩
  split
  · exact ⟨_, _, rfl, trivial, hg6⟩
  split
  · exact ⟨_, _, rfl, trivial, hg6⟩
  · exact ⟨_, _, rfl, trivial, hg3⟩
theorem sl5Any_g {g : L1Cur} (h : CurOk g) : Gives (S_sl5Any g) fun l => l.length ≤ 7 := by
  unfold S_sl5Any
  simp only [rws_y, rws_path, eta_L1Cur, len_path, set_path]
  obtain ⟨l, g1, e1, ⟨hl, h2⟩, hg1⟩ := sl5Draw_u_g h
  rw [e1, bnd_some]
  have h7 : l.length ≤ 7 := hl.1
  have h2 : 2 ≤ l.length := h2
  dsimp only
  obtain ⟨b, g2, e2, _, hg2⟩ := sl1Once_g hg1 (n := 6) (by omega)
  rw [e2, bnd_some]
  cases b with
  | false => rw [cnd_ff]; exact ⟨_, _, rfl, h7, hg2⟩
  | true =>
    rw [cnd_tt]
    obtain ⟨k, g3, e3, hk, hg3⟩ := sl1Below_g hg2 (n := (l.length : Int)) (by omega)
    rw [e3, bnd_some]
    obtain ⟨p, g4, e4, _, hg4⟩ := sl4Any_g hg3
    rw [e4, bnd_some]
    have hk1 := hk.2.1 (by omega)
    have hk0 := hk.1
    rw [ifA_pos (by omega)]
    have hlt : k.toNat < l.length := by omega
    simp only [getn_path]
    rw [getN_at (List.getElem?_eq_getElem hlt)]
    exact ⟨_, _, rfl, by simp; exact h7, hg4⟩
theorem sDrawCallAll_g (code : List Int) (h : code.length ≤ 1048576) : ∃ p, S_sDrawCallAll code = some p ∧ Sm p := by
  unfold S_sDrawCallAll S_sDrawArePaths
  simp only [rws_y, rws_path, eta_L1Cur]
  obtain ⟨g, e, hg⟩ := sl1New_g code h
  rw [e, bnd_some]
  obtain ⟨l, g1, e1, hl, _⟩ := sl5Any_g hg
  rw [e1, bnd_some]
  have hl : l.length ≤ 7 := hl
  exact ⟨_, rfl, by unfold Sm; dsimp only; omega⟩
theorem lat_v (c : List Int) (hb : ∀ y ∈ c, 0 ≤ y ∧ y ≤ 255) (hl : c.length ≤ 1048576) : ∃ k, S_lat c 3 = some k ∧ 0 ≤ k := by
  unfold S_lat
  simp only [len_y]
  by_cases hc : (3 : Int) < (c.length : Int)
  · rw [show decide ((3 : Int) < (c.length : Int)) = true by simpa using hc, cnd_tt]
    have hlt : 3 < c.length := by omega
    have hg : c[3]? = some c[3] := List.getElem?_eq_getElem hlt
    have hm := hb _ (List.getElem_mem hlt)
    simp only [geti_y]
    rw [show (3 : Int) = ((3 : Nat) : Int) from rfl, getZ_at hg]
    exact ⟨_, rfl, by rw [W_id (by omega) (by omega)]; exact hm.1⟩
  · rw [show decide ((3 : Int) < (c.length : Int)) = false by simpa using hc, cnd_ff]
    refine ⟨_, rfl, ?_⟩
    rw [W_id (n := 3 * 31) (by omega) (by omega), W_id (n := (c.length : Int) * 7) (by omega) (by omega), W_id (by omega) (by omega)]
    exact Int.tmod_nonneg _ (by omega)
theorem name_v {k : Int} (h : 1 ≤ k ∧ k ≤ 6) : ∃ b, S_iEventName k = some b ∧ (b.toList == ByteArray.toList (ByteArray.mk (List.toArray []))) = false := by
  have : k = 1 ∨ k = 2 ∨ k = 3 ∨ k = 4 ∨ k = 5 ∨ k = 6 := by omega
  rcases this with rfl | rfl | rfl | rfl | rfl | rfl <;> exact ⟨_, rfl, by rw [beq_ba]; decide⟩
end Go.Sh
