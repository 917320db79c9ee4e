/- Part of the proof: see the last text of the claim. -/
import Derived.Test.YtdeoffkhnkdhmaaGTyL
import Derived.Test.YtdeoffkhnkdhmaaSh1
set_option linter.all false
namespace Go.Sh
open Go.Fx
def OkReport (s : Report) : Prop := Rg s.path ∧ Rg s.second ∧ Rg s.light ∧ Rg s.since ∧ Rg s.other
def shReport : Sh := .st 5 [.int .i64, .int .i64, .int .i64, .int .i64, .int .i64]
theorem reads_report : Reads shReport reportR OkReport := reads_map (reads_st (readF_co reads_int (readF_co reads_int (readF_co reads_int (readF_co reads_int (readF_one reads_int)))))) (fun _ h => h)
def OkWant (s : Want) : Prop := Rg s.path ∧ Rg s.wait
def shWant : Sh := .st 2 [.int .i64, .int .i64]
theorem reads_want : Reads shWant wantR OkWant := reads_map (reads_st (readF_co reads_int (readF_one reads_int))) (fun _ h => h)
def OkLamp (s : Lamp) : Prop := Rg s.path ∧ Rg s.colour ∧ True
def shLamp : Sh := .st 3 [.int .i64, .int .i64, .bool]
theorem reads_lamp : Reads shLamp lampR OkLamp := reads_map (reads_st (readF_co reads_int (readF_co reads_int (readF_one reads_bool)))) (fun _ h => h)
def OkEvt (s : Evt) : Prop := Rg s.kind ∧ Rg s.path ∧ Rg s.n ∧ True
def shEvt : Sh := .st 4 [.int .i64, .int .i64, .int .i64, .bool]
theorem reads_evt : Reads shEvt evtR OkEvt := reads_map (reads_st (readF_co reads_int (readF_co reads_int (readF_co reads_int (readF_one reads_bool))))) (fun _ h => h)
def OkPath (s : Path) : Prop := Rg s.id ∧ Rg s.kind ∧ Rg s.src ∧ Rg s.dst
def shPath : Sh := .st 4 [.int .i64, .int .i64, .int .i64, .int .i64]
theorem reads_path : Reads shPath pathR OkPath := reads_map (reads_st (readF_co reads_int (readF_co reads_int (readF_co reads_int (readF_one reads_int))))) (fun _ h => h)
def SmNote (s : Note) : Prop := Sm s.lights
def OkNote (s : Note) : Prop := Rg s.second ∧ (s.lights.length ≤ maxLen ∧ ∀ y ∈ s.lights, Rg y) ∧ Rg s.sig
def shNote : Sh := .st 3 [.int .i64, .sl 1 (.int .i64), .int .i64]
theorem reads_note : Reads shNote (noteR .shr) OkNote := reads_map (reads_st (readF_co reads_int (readF_co (reads_sl 1 reads_int) (readF_one reads_int)))) (fun _ h => h)
@[simp] theorem ltoReport_v (a : Report) : S_ltoReport a = some a := rfl
theorem lszWantS_v (a : (List Want)) (h : (a.length ≤ maxLen ∧ ∀ y ∈ a, OkWant y)) : SzOk S_lszWantS a (Sm a) := by
  intro left g0 g1
  unfold S_lszWantS
  have hm : a.length ≤ 9223372036854775807 := h.1
  simp only [rws_want, len_want]
  rw [W_id (by omega) (by omega)]
  by_cases hn : left - (a.length : Int) < 0
  · rw [show decide (left - (a.length : Int) < 0) = true by simpa using hn, cnd_tt]
    exact ⟨-1, rfl, .inl (by omega)⟩
  · rw [show decide (left - (a.length : Int) < 0) = false by simpa using hn, cnd_ff]
    exact ⟨_, rfl, .inr ⟨by omega, by omega, by unfold Sm; omega⟩⟩
@[simp] theorem ltoWant_v (a : Want) : S_ltoWant a = some a := rfl
theorem ltoWantS_v (a : (List Want)) (h : Sm a) : S_ltoWantS a = some a := by
  have hl := h
  unfold Sm at hl
  unfold S_ltoWantS
  simp only [rws_want, len_want, rep_want, Int.toNat_natCast]
  rw [ifA_pos (by simp <;> omega)]
  refine to_loop a _ (by omega) ?_ ?_
  · intro rec o
    simp
  · intro rec k x o hx hk ho
    have hz : o[k]? = some o[k] := List.getElem?_eq_getElem (by omega)
    have hko : k < o.length := by omega
    simp [hk, hko, getZ_at hx, getN_at hz, W_nat (show k ≤ 9223372036854775806 by omega), ltoWant_v]
@[simp] theorem leqWant_v (a b : Want) : S_leqWant a b = some (decide (a = b)) := by
  unfold S_leqWant
  cases a; cases b
  simp [cnd_if]
  grind
theorem leqWantS_v (a b : (List Want)) (h : Sm a) : S_leqWantS a b = some (decide (a = b)) := by
  have hl := h
  unfold Sm at hl
  unfold S_leqWantS
  simp only [rws_want, len_want]
  by_cases hab : a.length = b.length
  · rw [show (((a.length : Nat) : Int) != ((b.length : Nat) : Int)) = false by simp [hab], cnd_ff]
    refine eq_loop a b hab (by omega) ?_ ?_
    · intro rec
      simp
    · intro rec k x y hx hy hk
      simp [hk, getZ_at hx, getZ_at hy, W_nat (show k ≤ 9223372036854775806 by omega), cnd_if, leqWant_v]
  · have hne : a ≠ b := fun e => hab (by rw [e])
    rw [show (((a.length : Nat) : Int) != ((b.length : Nat) : Int)) = true by simp; omega, cnd_tt]
    simp [hne]
theorem lszLampS_v (a : (List Lamp)) (h : (a.length ≤ maxLen ∧ ∀ y ∈ a, OkLamp y)) : SzOk S_lszLampS a (Sm a) := by
  intro left g0 g1
  unfold S_lszLampS
  have hm : a.length ≤ 9223372036854775807 := h.1
  simp only [rws_lamp, len_lamp]
  rw [W_id (by omega) (by omega)]
  by_cases hn : left - (a.length : Int) < 0
  · rw [show decide (left - (a.length : Int) < 0) = true by simpa using hn, cnd_tt]
    exact ⟨-1, rfl, .inl (by omega)⟩
  · rw [show decide (left - (a.length : Int) < 0) = false by simpa using hn, cnd_ff]
    exact ⟨_, rfl, .inr ⟨by omega, by omega, by unfold Sm; omega⟩⟩
@[simp] theorem ltoLamp_v (a : Lamp) : S_ltoLamp a = some a := rfl
theorem ltoLampS_v (a : (List Lamp)) (h : Sm a) : S_ltoLampS a = some a := by
  have hl := h
  unfold Sm at hl
  unfold S_ltoLampS
  simp only [rws_lamp, len_lamp, rep_lamp, Int.toNat_natCast]
  rw [ifA_pos (by simp <;> omega)]
  refine to_loop a _ (by omega) ?_ ?_
  · intro rec o
    simp
  · intro rec k x o hx hk ho
    have hz : o[k]? = some o[k] := List.getElem?_eq_getElem (by omega)
    have hko : k < o.length := by omega
    simp [hk, hko, getZ_at hx, getN_at hz, W_nat (show k ≤ 9223372036854775806 by omega), ltoLamp_v]
@[simp] theorem leqLamp_v (a b : Lamp) : S_leqLamp a b = some (decide (a = b)) := by
  unfold S_leqLamp
  cases a; cases b
  simp [cnd_if]
  grind
theorem leqLampS_v (a b : (List Lamp)) (h : Sm a) : S_leqLampS a b = some (decide (a = b)) := by
  have hl := h
  unfold Sm at hl
  unfold S_leqLampS
  simp only [rws_lamp, len_lamp]
  by_cases hab : a.length = b.length
  · rw [show (((a.length : Nat) : Int) != ((b.length : Nat) : Int)) = false by simp [hab], cnd_ff]
    refine eq_loop a b hab (by omega) ?_ ?_
    · intro rec
      simp
    · intro rec k x y hx hy hk
      simp [hk, getZ_at hx, getZ_at hy, W_nat (show k ≤ 9223372036854775806 by omega), cnd_if, leqLamp_v]
  · have hne : a ≠ b := fun e => hab (by rw [e])
    rw [show (((a.length : Nat) : Int) != ((b.length : Nat) : Int)) = true by simp; omega, cnd_tt]
    simp [hne]
theorem lszEventS_v (a : (List Evt)) (h : (a.length ≤ maxLen ∧ ∀ y ∈ a, OkEvt y)) : SzOk S_lszEventS a (Sm a) := by
  intro left g0 g1
  unfold S_lszEventS
  have hm : a.length ≤ 9223372036854775807 := h.1
  simp only [rws_evt, len_evt]
  rw [W_id (by omega) (by omega)]
  by_cases hn : left - (a.length : Int) < 0
  · rw [show decide (left - (a.length : Int) < 0) = true by simpa using hn, cnd_tt]
    exact ⟨-1, rfl, .inl (by omega)⟩
  · rw [show decide (left - (a.length : Int) < 0) = false by simpa using hn, cnd_ff]
    exact ⟨_, rfl, .inr ⟨by omega, by omega, by unfold Sm; omega⟩⟩
@[simp] theorem ltoEvent_v (a : Evt) : S_ltoEvent a = some a := rfl
theorem ltoEventS_v (a : (List Evt)) (h : Sm a) : S_ltoEventS a = some a := by
  have hl := h
  unfold Sm at hl
  unfold S_ltoEventS
  simp only [rws_evt, len_evt, rep_evt, Int.toNat_natCast]
  rw [ifA_pos (by simp <;> omega)]
  refine to_loop a _ (by omega) ?_ ?_
  · intro rec o
    simp
  · intro rec k x o hx hk ho
    have hz : o[k]? = some o[k] := List.getElem?_eq_getElem (by omega)
    have hko : k < o.length := by omega
    simp [hk, hko, getZ_at hx, getN_at hz, W_nat (show k ≤ 9223372036854775806 by omega), ltoEvent_v]
@[simp] theorem leqEvent_v (a b : Evt) : S_leqEvent a b = some (decide (a = b)) := by
  unfold S_leqEvent
  cases a; cases b
  simp [cnd_if]
  grind
theorem leqEventS_v (a b : (List Evt)) (h : Sm a) : S_leqEventS a b = some (decide (a = b)) := by
  have hl := h
  unfold Sm at hl
  unfold S_leqEventS
  simp only [rws_evt, len_evt]
  by_cases hab : a.length = b.length
  · rw [show (((a.length : Nat) : Int) != ((b.length : Nat) : Int)) = false by simp [hab], cnd_ff]
    refine eq_loop a b hab (by omega) ?_ ?_
    · intro rec
      simp
    · intro rec k x y hx hy hk
      simp [hk, getZ_at hx, getZ_at hy, W_nat (show k ≤ 9223372036854775806 by omega), cnd_if, leqEvent_v]
  · have hne : a ≠ b := fun e => hab (by rw [e])
    rw [show (((a.length : Nat) : Int) != ((b.length : Nat) : Int)) = true by simp; omega, cnd_tt]
    simp [hne]
theorem lszPathS_v (a : (List Path)) (h : (a.length ≤ maxLen ∧ ∀ y ∈ a, OkPath y)) : SzOk S_lszPathS a (Sm a) := by
  intro left g0 g1
  unfold S_lszPathS
  have hm : a.length ≤ 9223372036854775807 := h.1
  simp only [rws_path, len_path]
  rw [W_id (by omega) (by omega)]
  by_cases hn : left - (a.length : Int) < 0
  · rw [show decide (left - (a.length : Int) < 0) = true by simpa using hn, cnd_tt]
    exact ⟨-1, rfl, .inl (by omega)⟩
  · rw [show decide (left - (a.length : Int) < 0) = false by simpa using hn, cnd_ff]
    exact ⟨_, rfl, .inr ⟨by omega, by omega, by unfold Sm; omega⟩⟩
@[simp] theorem ltoPath_v (a : Path) : S_ltoPath a = some a := rfl
theorem ltoPathS_v (a : (List Path)) (h : Sm a) : S_ltoPathS a = some a := by
  have hl := h
  unfold Sm at hl
  unfold S_ltoPathS
  simp only [rws_path, len_path, rep_path, Int.toNat_natCast]
  rw [ifA_pos (by simp <;> omega)]
  refine to_loop a _ (by omega) ?_ ?_
  · intro rec o
    simp
  · intro rec k x o hx hk ho
    have hz : o[k]? = some o[k] := List.getElem?_eq_getElem (by omega)
    have hko : k < o.length := by omega
    simp [hk, hko, getZ_at hx, getN_at hz, W_nat (show k ≤ 9223372036854775806 by omega), ltoPath_v]
@[simp] theorem leqPath_v (a b : Path) : S_leqPath a b = some (decide (a = b)) := by
  unfold S_leqPath
  cases a; cases b
  simp [cnd_if]
  grind
theorem leqPathS_v (a b : (List Path)) (h : Sm a) : S_leqPathS a b = some (decide (a = b)) := by
  have hl := h
  unfold Sm at hl
  unfold S_leqPathS
  simp only [rws_path, len_path]
  by_cases hab : a.length = b.length
  · rw [show (((a.length : Nat) : Int) != ((b.length : Nat) : Int)) = false by simp [hab], cnd_ff]
    refine eq_loop a b hab (by omega) ?_ ?_
    · intro rec
      simp
    · intro rec k x y hx hy hk
      simp [hk, getZ_at hx, getZ_at hy, W_nat (show k ≤ 9223372036854775806 by omega), cnd_if, leqPath_v]
  · have hne : a ≠ b := fun e => hab (by rw [e])
    rw [show (((a.length : Nat) : Int) != ((b.length : Nat) : Int)) = true by simp; omega, cnd_tt]
    simp [hne]
theorem lszReportS_v (a : (List Report)) (h : (a.length ≤ maxLen ∧ ∀ y ∈ a, OkReport y)) : SzOk S_lszReportS a (Sm a) := by
  intro left g0 g1
  unfold S_lszReportS
  have hm : a.length ≤ 9223372036854775807 := h.1
  simp only [rws_report, len_report]
  rw [W_id (by omega) (by omega)]
  by_cases hn : left - (a.length : Int) < 0
  · rw [show decide (left - (a.length : Int) < 0) = true by simpa using hn, cnd_tt]
    exact ⟨-1, rfl, .inl (by omega)⟩
  · rw [show decide (left - (a.length : Int) < 0) = false by simpa using hn, cnd_ff]
    exact ⟨_, rfl, .inr ⟨by omega, by omega, by unfold Sm; omega⟩⟩
theorem ltoReportS_v (a : (List Report)) (h : Sm a) : S_ltoReportS a = some a := by
  have hl := h
  unfold Sm at hl
  unfold S_ltoReportS
  simp only [rws_report, len_report, rep_report, Int.toNat_natCast]
  rw [ifA_pos (by simp <;> omega)]
  refine to_loop a _ (by omega) ?_ ?_
  · intro rec o
    simp
  · intro rec k x o hx hk ho
    have hz : o[k]? = some o[k] := List.getElem?_eq_getElem (by omega)
    have hko : k < o.length := by omega
    simp [hk, hko, getZ_at hx, getN_at hz, W_nat (show k ≤ 9223372036854775806 by omega), ltoReport_v]
@[simp] theorem leqReport_v (a b : Report) : S_leqReport a b = some (decide (a = b)) := by
  unfold S_leqReport
  cases a; cases b
  simp [cnd_if]
  grind
theorem leqReportS_v (a b : (List Report)) (h : Sm a) : S_leqReportS a b = some (decide (a = b)) := by
  have hl := h
  unfold Sm at hl
  unfold S_leqReportS
  simp only [rws_report, len_report]
  by_cases hab : a.length = b.length
  · rw [show (((a.length : Nat) : Int) != ((b.length : Nat) : Int)) = false by simp [hab], cnd_ff]
    refine eq_loop a b hab (by omega) ?_ ?_
    · intro rec
      simp
    · intro rec k x y hx hy hk
      simp [hk, getZ_at hx, getZ_at hy, W_nat (show k ≤ 9223372036854775806 by omega), cnd_if, leqReport_v]
  · have hne : a ≠ b := fun e => hab (by rw [e])
    rw [show (((a.length : Nat) : Int) != ((b.length : Nat) : Int)) = true by simp; omega, cnd_tt]
    simp [hne]
theorem ltoIntS_v (a : (List Int)) (h : Sm a) : S_ltoIntS a = some a := by
  have hl := h
  unfold Sm at hl
  unfold S_ltoIntS
  simp only [rws_i, len_i, rep_i, Int.toNat_natCast]
  rw [ifA_pos (by simp <;> omega)]
  refine to_loop a _ (by omega) ?_ ?_
  · intro rec o
    simp
  · intro rec k x o hx hk ho
    have hz : o[k]? = some o[k] := List.getElem?_eq_getElem (by omega)
    have hko : k < o.length := by omega
    simp [hk, hko, getZ_at hx, getN_at hz, W_nat (show k ≤ 9223372036854775806 by omega)]
theorem leqIntS_v (a b : (List Int)) (h : Sm a) : S_leqIntS a b = some (decide (a = b)) := by
  have hl := h
  unfold Sm at hl
  unfold S_leqIntS
  simp only [rws_i, len_i]
  by_cases hab : a.length = b.length
  · rw [show (((a.length : Nat) : Int) != ((b.length : Nat) : Int)) = false by simp [hab], cnd_ff]
    refine eq_loop a b hab (by omega) ?_ ?_
    · intro rec
      simp
    · intro rec k x y hx hy hk
      simp [hk, getZ_at hx, getZ_at hy, W_nat (show k ≤ 9223372036854775806 by omega), cnd_if]
  · have hne : a ≠ b := fun e => hab (by rw [e])
    rw [show (((a.length : Nat) : Int) != ((b.length : Nat) : Int)) = true by simp; omega, cnd_tt]
    simp [hne]
theorem lszIntS_v (a : (List Int)) (h : (a.length ≤ maxLen ∧ ∀ y ∈ a, Rg y)) : SzOk S_lszIntS a (Sm a) := by
  intro left g0 g1
  unfold S_lszIntS
  have hm : a.length ≤ 9223372036854775807 := h.1
  simp only [rws_i, len_i]
  rw [W_id (by omega) (by omega)]
  by_cases hn : left - (a.length : Int) < 0
  · rw [show decide (left - (a.length : Int) < 0) = true by simpa using hn, cnd_tt]
    exact ⟨-1, rfl, .inl (by omega)⟩
  · rw [show decide (left - (a.length : Int) < 0) = false by simpa using hn, cnd_ff]
    exact ⟨_, rfl, .inr ⟨by omega, by omega, by unfold Sm; omega⟩⟩
theorem lszEntry_v (a : Note) (h : OkNote a) : SzOk S_lszEntry a (SmNote a) := by
  intro left g0 g1
  unfold S_lszEntry
  obtain ⟨k0, k1, k2⟩ := h
  simp only [rws_i, bnd_some]
  obtain ⟨r0, e0, d0⟩ := lszIntS_v a.lights k1 left (by omega) (by omega)
  rw [e0, bnd_some]
  by_cases n0 : r0 < 0
  · rw [show decide (r0 < 0) = true by simpa using n0, cnd_tt]
    exact ⟨-1, rfl, .inl (by omega)⟩
  rw [show decide (r0 < 0) = false by simpa using n0, cnd_ff]
  replace d0 := d0.resolve_left n0
  exact ⟨r0, rfl, .inr ⟨by omega, by omega, d0.2.2⟩⟩
theorem lszEntryS_v (a : (List Note)) (h : (a.length ≤ maxLen ∧ ∀ y ∈ a, OkNote y)) : SzOk S_lszEntryS a ((Sm a ∧ ∀ y ∈ a, SmNote y)) := by
  intro left g0 g1
  unfold S_lszEntryS
  have hm : a.length ≤ 9223372036854775807 := h.1
  simp only [rws_note_ss, len_note]
  rw [W_id (by omega) (by omega)]
  by_cases hn : left - (a.length : Int) < 0
  · rw [show decide (left - (a.length : Int) < 0) = true by simpa using hn, cnd_tt]
    exact ⟨-1, rfl, .inl (by omega)⟩
  · rw [show decide (left - (a.length : Int) < 0) = false by simpa using hn, cnd_ff]
    refine sz_loop' (S := S_lszEntry) a (fun y => SmNote y) (by omega) (fun x hx => lszEntry_v x (h.2 x hx)) (fun rec l => by simp) (fun rec k x l r hx hk hr => ?_) (by omega) (by omega) g1 (by unfold Sm; omega)
    simp [hk, getZ_at hx, W_nat (show k ≤ 9223372036854775806 by omega), hr, cnd_if]
theorem ltoEntry_v (a : Note) (h : SmNote a) : S_ltoEntry a = some a := by
  have h0 := h
  unfold S_ltoEntry
  simp [ltoIntS_v _ h0]
theorem ltoEntryS_v (a : (List Note)) (h : (Sm a ∧ ∀ y ∈ a, SmNote y)) : S_ltoEntryS a = some a := by
  obtain ⟨hl, he⟩ := h
  unfold Sm at hl
  unfold S_ltoEntryS
  simp only [rws_note_ss, len_note, repz_note_oo, Int.toNat_natCast]
  rw [ifA_pos (by simp <;> omega)]
  refine to_loop a _ (by omega) ?_ ?_
  · intro rec o
    simp
  · intro rec k x o hx hk ho
    have hz : o[k]? = some o[k] := List.getElem?_eq_getElem (by omega)
    have hko : k < o.length := by omega
    simp [hk, hko, getZ_at hx, getN_at hz, W_nat (show k ≤ 9223372036854775806 by omega), ltoEntry_v x (he x (List.mem_of_getElem? hx))]
theorem leqEntry_v (a b : Note) (h : SmNote a) : S_leqEntry a b = some (decide (a = b)) := by
  have h0 := h
  unfold S_leqEntry
  simp only [rws_i, leqIntS_v _ _ h0, bnd_some]
  cases a; cases b
  simp [cnd_if]
  grind
theorem leqEntryS_v (a b : (List Note)) (h : (Sm a ∧ ∀ y ∈ a, SmNote y)) : S_leqEntryS a b = some (decide (a = b)) := by
  obtain ⟨hl, he⟩ := h
  unfold Sm at hl
  unfold S_leqEntryS
  simp only [rws_note_ss, len_note]
  by_cases hab : a.length = b.length
  · rw [show (((a.length : Nat) : Int) != ((b.length : Nat) : Int)) = false by simp [hab], cnd_ff]
    refine eq_loop a b hab (by omega) ?_ ?_
    · intro rec
      simp
    · intro rec k x y hx hy hk
      simp [hk, getZ_at hx, getZ_at hy, W_nat (show k ≤ 9223372036854775806 by omega), cnd_if, leqEntry_v x y (he x (List.mem_of_getElem? hx))]
  · have hne : a ≠ b := fun e => hab (by rw [e])
    rw [show (((a.length : Nat) : Int) != ((b.length : Nat) : Int)) = true by simp; omega, cnd_tt]
    simp [hne]
end Go.Sh
