/- Part of the proof: see the last text of the claim. -/
import Derived.Test.YteaoohmablanhaaDoorGTyL5
import Derived.Test.YteaoohmablanhaaDoorSh5
set_option linter.all false
namespace Go.Sh
open Go.Fx
def OkPath (s : Path) : Prop := Rg s.id ∧ Rg s.kind ∧ Rg s.src ∧ Rg s.dst
def shPath : Sh := .st 4 [.int .i64, .int .i64, .int .i64, .int .i64]
theorem reads_path : Reads shPath pathR OkPath := reads_map (reads_st (readF_co reads_int (readF_co reads_int (readF_co reads_int (readF_one reads_int))))) (fun _ h => h)
def SmPart (s : Part) : Prop := Sm s.stage
def OkPart (s : Part) : Prop := (s.stage.length ≤ maxLen ∧ ∀ y ∈ s.stage, Rg y) ∧ Rg s.green
def shPart : Sh := .st 2 [.sl 1 (.int .i64), .int .i64]
theorem reads_part : Reads shPart (partR .shr) OkPart := reads_map (reads_st (readF_co (reads_sl 1 reads_int) (readF_one reads_int))) (fun _ h => h)
@[simp] theorem leqPath_v (a b : Path) : S_leqPath a b = some (decide (a = b)) := by
  unfold S_leqPath
  rcases a with ⟨a0, a1, a2, a3⟩
  rcases b with ⟨b0, b1, b2, b3⟩
  simp [cnd_if]
  grind
theorem lszIntS_v (a : (List Int)) (h : (a.length ≤ maxLen ∧ ∀ y ∈ a, Rg y)) : SzOk S_lszIntS a (Sm a) := by
  intro left g0 g1
  unfold S_lszIntS
  have hm : a.length ≤ 9223372036854775807 := h.1
  simp only [rws_i, len_i]
  rw [W_id (by omega) (by omega)]
  by_cases hn : left - (a.length : Int) < 0
  · rw [show decide (left - (a.length : Int) < 0) = true by simpa using hn, cnd_tt]
    exact ⟨-1, rfl, .inl (by omega)⟩
  · rw [show decide (left - (a.length : Int) < 0) = false by simpa using hn, cnd_ff]
    exact ⟨_, rfl, .inr ⟨by omega, by omega, by unfold Sm; omega⟩⟩
theorem lszPart_v (a : Part) (h : OkPart a) : SzOk S_lszPart a (SmPart a) := by
  intro left g0 g1
  unfold S_lszPart
  obtain ⟨k0, k1⟩ := h
  simp only [rws_i, bnd_some]
  obtain ⟨r0, e0, d0⟩ := lszIntS_v a.stage k0 left (by omega) (by omega)
  rw [e0, bnd_some]
  by_cases n0 : r0 < 0
  · rw [show decide (r0 < 0) = true by simpa using n0, cnd_tt]
    exact ⟨-1, rfl, .inl (by omega)⟩
  rw [show decide (r0 < 0) = false by simpa using n0, cnd_ff]
  replace d0 := d0.resolve_left n0
  exact ⟨r0, rfl, .inr ⟨by omega, by omega, d0.2.2⟩⟩
theorem lszPartS_v (a : (List Part)) (h : (a.length ≤ maxLen ∧ ∀ y ∈ a, OkPart y)) : SzOk S_lszPartS a ((Sm a ∧ ∀ y ∈ a, SmPart y)) := by
  intro left g0 g1
  unfold S_lszPartS
  have hm : a.length ≤ 9223372036854775807 := h.1
  simp only [rws_part_ss, len_part]
  rw [W_id (by omega) (by omega)]
  by_cases hn : left - (a.length : Int) < 0
  · rw [show decide (left - (a.length : Int) < 0) = true by simpa using hn, cnd_tt]
    exact ⟨-1, rfl, .inl (by omega)⟩
  · rw [show decide (left - (a.length : Int) < 0) = false by simpa using hn, cnd_ff]
    refine sz_loop' (S := S_lszPart) a (fun y => SmPart y) (by omega) (fun x hx => lszPart_v x (h.2 x hx)) (fun rec l => by simp) (fun rec k x l r hx hk hr => ?_) (by omega) (by omega) g1 (by unfold Sm; omega)
    simp [hk, getZ_at hx, W_nat (show k ≤ 9223372036854775806 by omega), hr, cnd_if]
theorem ltoIntS_v (a : (List Int)) (h : Sm a) : S_ltoIntS a = some a := by
  have hl := h
  unfold Sm at hl
  unfold S_ltoIntS
  simp only [rws_i, len_i, rep_i, Int.toNat_natCast]
  rw [ifA_pos (by simp <;> omega)]
  refine to_loop a _ (by omega) ?_ ?_
  · intro rec o
    simp
  · intro rec k x o hx hk ho
    have hz : o[k]? = some o[k] := List.getElem?_eq_getElem (by omega)
    have hko : k < o.length := by omega
    simp [hk, hko, getZ_at hx, getN_at hz, W_nat (show k ≤ 9223372036854775806 by omega)]
theorem ltoPart_v (a : Part) (h : SmPart a) : S_ltoPart a = some a := by
  have h0 := h
  unfold S_ltoPart
  simp [ltoIntS_v _ h0]
theorem ltoPartS_v (a : (List Part)) (h : (Sm a ∧ ∀ y ∈ a, SmPart y)) : S_ltoPartS a = some a := by
  obtain ⟨hl, he⟩ := h
  unfold Sm at hl
  unfold S_ltoPartS
  simp only [rws_part_ss, len_part, repz_part_oo, Int.toNat_natCast]
  rw [ifA_pos (by simp <;> omega)]
  refine to_loop a _ (by omega) ?_ ?_
  · intro rec o
    simp
  · intro rec k x o hx hk ho
    have hz : o[k]? = some o[k] := List.getElem?_eq_getElem (by omega)
    have hko : k < o.length := by omega
    simp [hk, hko, getZ_at hx, getN_at hz, W_nat (show k ≤ 9223372036854775806 by omega), ltoPart_v x (he x (List.mem_of_getElem? hx))]
theorem leqIntS_v (a b : (List Int)) (h : Sm a) : S_leqIntS a b = some (decide (a = b)) := by
  have hl := h
  unfold Sm at hl
  unfold S_leqIntS
  simp only [rws_i, len_i]
  by_cases hab : a.length = b.length
  · rw [show (((a.length : Nat) : Int) != ((b.length : Nat) : Int)) = false by simp [hab], cnd_ff]
    refine eq_loop a b hab (by omega) ?_ ?_
    · intro rec
      simp
    · intro rec k x y hx hy hk
      simp [hk, getZ_at hx, getZ_at hy, W_nat (show k ≤ 9223372036854775806 by omega), cnd_if]
  · have hne : a ≠ b := fun e => hab (by rw [e])
    rw [show (((a.length : Nat) : Int) != ((b.length : Nat) : Int)) = true by simp; omega, cnd_tt]
    simp [hne]
theorem leqPart_v (a b : Part) (h : SmPart a) : S_leqPart a b = some (decide (a = b)) := by
  have h0 := h
  unfold S_leqPart
  simp only [rws_i, leqIntS_v _ _ h0, bnd_some]
  rcases a with ⟨a0, a1⟩
  rcases b with ⟨b0, b1⟩
  simp [cnd_if]
  grind
theorem leqPartS_v (a b : (List Part)) (h : (Sm a ∧ ∀ y ∈ a, SmPart y)) : S_leqPartS a b = some (decide (a = b)) := by
  obtain ⟨hl, he⟩ := h
  unfold Sm at hl
  unfold S_leqPartS
  simp only [rws_part_ss, len_part]
  by_cases hab : a.length = b.length
  · rw [show (((a.length : Nat) : Int) != ((b.length : Nat) : Int)) = false by simp [hab], cnd_ff]
    refine eq_loop a b hab (by omega) ?_ ?_
    · intro rec
      simp
    · intro rec k x y hx hy hk
      simp [hk, getZ_at hx, getZ_at hy, W_nat (show k ≤ 9223372036854775806 by omega), cnd_if, leqPart_v x y (he x (List.mem_of_getElem? hx))]
  · have hne : a ≠ b := fun e => hab (by rw [e])
    rw [show (((a.length : Nat) : Int) != ((b.length : Nat) : Int)) = true by simp; omega, cnd_tt]
    simp [hne]
end Go.Sh
