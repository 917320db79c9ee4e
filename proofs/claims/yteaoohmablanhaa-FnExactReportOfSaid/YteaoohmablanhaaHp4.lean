/- Part of the proof: see the last text of the claim. -/
import Derived.Test.YteaoohmablanhaaGTyL4
import Derived.Test.YteaoohmablanhaaSh4
set_option linter.all false
namespace Go.Sh
open Go.Fx
def OkPath (s : Path) : Prop := Rg s.id ∧ Rg s.kind ∧ Rg s.src ∧ Rg s.dst
def shPath : Sh := .st 4 [.int .i64, .int .i64, .int .i64, .int .i64]
theorem reads_path : Reads shPath pathR OkPath := reads_map (reads_st (readF_co reads_int (readF_co reads_int (readF_co reads_int (readF_one reads_int))))) (fun _ h => h)
def SmPart (s : Part) : Prop := Sm s.stage
def OkPart (s : Part) : Prop := (s.stage.length ≤ maxLen ∧ ∀ y ∈ s.stage, Rg y) ∧ Rg s.green
def shPart : Sh := .st 2 [.sl 1 (.int .i64), .int .i64]
theorem reads_part : Reads shPart (partR .shr) OkPart := reads_map (reads_st (readF_co (reads_sl 1 reads_int) (readF_one reads_int))) (fun _ h => h)
def OkEvt (s : Evt) : Prop := Rg s.kind ∧ Rg s.path ∧ Rg s.n ∧ True
def shEvt : Sh := .st 4 [.int .i64, .int .i64, .int .i64, .bool]
theorem reads_evt : Reads shEvt evtR OkEvt := reads_map (reads_st (readF_co reads_int (readF_co reads_int (readF_co reads_int (readF_one reads_bool))))) (fun _ h => h)
def OkService (s : Service) : Prop := Rg s.path ∧ Rg s.green ∧ Rg s.wait ∧ Rg s.share
def shService : Sh := .st 4 [.int .i64, .int .i64, .int .i64, .int .i64]
theorem reads_service : Reads shService serviceR OkService := reads_map (reads_st (readF_co reads_int (readF_co reads_int (readF_co reads_int (readF_one reads_int))))) (fun _ h => h)
def SmControl (s : Control) : Prop := Sm s.stage ∧ Sm s.next
def OkControl (s : Control) : Prop := (s.stage.length ≤ maxLen ∧ ∀ y ∈ s.stage, Rg y) ∧ Rg s.since ∧ (s.next.length ≤ maxLen ∧ ∀ y ∈ s.next, Rg y) ∧ Rg s.left
def shControl : Sh := .st 4 [.sl 1 (.int .i64), .int .i64, .sl 1 (.int .i64), .int .i64]
theorem reads_control : Reads shControl (controlR .shr .shr) OkControl := reads_map (reads_st (readF_co (reads_sl 1 reads_int) (readF_co reads_int (readF_co (reads_sl 1 reads_int) (readF_one reads_int))))) (fun _ h => h)
def OkWant (s : Want) : Prop := Rg s.path ∧ Rg s.wait
def shWant : Sh := .st 2 [.int .i64, .int .i64]
theorem reads_want : Reads shWant wantR OkWant := reads_map (reads_st (readF_co reads_int (readF_one reads_int))) (fun _ h => h)
def OkPrio (s : Prio) : Prop := Rg s.path ∧ Rg s.left
def shPrio : Sh := .st 2 [.int .i64, .int .i64]
theorem reads_prio : Reads shPrio prioR OkPrio := reads_map (reads_st (readF_co reads_int (readF_one reads_int))) (fun _ h => h)
def OkLamp (s : Lamp) : Prop := Rg s.path ∧ Rg s.colour ∧ True
def shLamp : Sh := .st 3 [.int .i64, .int .i64, .bool]
theorem reads_lamp : Reads shLamp lampR OkLamp := reads_map (reads_st (readF_co reads_int (readF_co reads_int (readF_one reads_bool)))) (fun _ h => h)
def SmNote (s : Note) : Prop := Sm s.lights
def OkNote (s : Note) : Prop := Rg s.second ∧ (s.lights.length ≤ maxLen ∧ ∀ y ∈ s.lights, Rg y) ∧ Rg s.sig
def shNote : Sh := .st 3 [.int .i64, .sl 1 (.int .i64), .int .i64]
theorem reads_note : Reads shNote (noteR .shr) OkNote := reads_map (reads_st (readF_co reads_int (readF_co (reads_sl 1 reads_int) (readF_one reads_int)))) (fun _ h => h)
def SmTown (s : Town) : Prop := Sm s.paths ∧ SmControl s.control ∧ Sm s.wants ∧ Sm s.lamps ∧ (Sm s.record ∧ ∀ y ∈ s.record, SmNote y)
def OkTown (s : Town) : Prop := (s.paths.length ≤ maxLen ∧ ∀ y ∈ s.paths, OkPath y) ∧ OkControl s.control ∧ (s.wants.length ≤ maxLen ∧ ∀ y ∈ s.wants, OkWant y) ∧ OkPrio s.prio ∧ (s.lamps.length ≤ maxLen ∧ ∀ y ∈ s.lamps, OkLamp y) ∧ True ∧ (s.record.length ≤ maxLen ∧ ∀ y ∈ s.record, OkNote y) ∧ Rg s.books ∧ Rg s.now
def shTown : Sh := .st 13 [.sl 4 (shPath), shControl, .sl 2 (shWant), shPrio, .sl 3 (shLamp), .bool, .sl 3 (shNote), .int .i64, .int .i64]
theorem reads_town : Reads shTown (townR .shr .shr .shr .shr .shr .shr .shr) OkTown := reads_map (reads_st (readF_co (reads_sl 4 reads_path) (readF_ap reads_control (readF_co (reads_sl 2 reads_want) (readF_ap reads_prio (readF_co (reads_sl 3 reads_lamp) (readF_co reads_bool (readF_co (reads_sl 3 reads_note) (readF_co reads_int (readF_one reads_int)))))))))) (fun _ h => h)
def OkReport (s : Report) : Prop := Rg s.path ∧ Rg s.second ∧ Rg s.light ∧ Rg s.since ∧ Rg s.other
def shReport : Sh := .st 5 [.int .i64, .int .i64, .int .i64, .int .i64, .int .i64]
theorem reads_report : Reads shReport reportR OkReport := reads_map (reads_st (readF_co reads_int (readF_co reads_int (readF_co reads_int (readF_co reads_int (readF_one reads_int)))))) (fun _ h => h)
theorem lszPathS_v (a : (List Path)) (h : (a.length ≤ maxLen ∧ ∀ y ∈ a, OkPath y)) : SzOk S_lszPathS a (Sm a) := by
  intro left g0 g1
  unfold S_lszPathS
  have hm : a.length ≤ 9223372036854775807 := h.1
  simp only [rws_path, len_path]
  rw [W_id (by omega) (by omega)]
  by_cases hn : left - (a.length : Int) < 0
  · rw [show decide (left - (a.length : Int) < 0) = true by simpa using hn, cnd_tt]
    exact ⟨-1, rfl, .inl (by omega)⟩
  · rw [show decide (left - (a.length : Int) < 0) = false by simpa using hn, cnd_ff]
    exact ⟨_, rfl, .inr ⟨by omega, by omega, by unfold Sm; omega⟩⟩
theorem lszIntS_v (a : (List Int)) (h : (a.length ≤ maxLen ∧ ∀ y ∈ a, Rg y)) : SzOk S_lszIntS a (Sm a) := by
  intro left g0 g1
  unfold S_lszIntS
  have hm : a.length ≤ 9223372036854775807 := h.1
  simp only [rws_i, len_i]
  rw [W_id (by omega) (by omega)]
  by_cases hn : left - (a.length : Int) < 0
  · rw [show decide (left - (a.length : Int) < 0) = true by simpa using hn, cnd_tt]
    exact ⟨-1, rfl, .inl (by omega)⟩
  · rw [show decide (left - (a.length : Int) < 0) = false by simpa using hn, cnd_ff]
    exact ⟨_, rfl, .inr ⟨by omega, by omega, by unfold Sm; omega⟩⟩
theorem lszPart_v (a : Part) (h : OkPart a) : SzOk S_lszPart a (SmPart a) := by
  intro left g0 g1
  unfold S_lszPart
  obtain ⟨k0, k1⟩ := h
  simp only [rws_i, bnd_some]
  obtain ⟨r0, e0, d0⟩ := lszIntS_v a.stage k0 left (by omega) (by omega)
  rw [e0, bnd_some]
  by_cases n0 : r0 < 0
  · rw [show decide (r0 < 0) = true by simpa using n0, cnd_tt]
    exact ⟨-1, rfl, .inl (by omega)⟩
  rw [show decide (r0 < 0) = false by simpa using n0, cnd_ff]
  replace d0 := d0.resolve_left n0
  exact ⟨r0, rfl, .inr ⟨by omega, by omega, d0.2.2⟩⟩
theorem lszPartS_v (a : (List Part)) (h : (a.length ≤ maxLen ∧ ∀ y ∈ a, OkPart y)) : SzOk S_lszPartS a ((Sm a ∧ ∀ y ∈ a, SmPart y)) := by
  intro left g0 g1
  unfold S_lszPartS
  have hm : a.length ≤ 9223372036854775807 := h.1
  simp only [rws_part_ss, len_part]
  rw [W_id (by omega) (by omega)]
  by_cases hn : left - (a.length : Int) < 0
  · rw [show decide (left - (a.length : Int) < 0) = true by simpa using hn, cnd_tt]
    exact ⟨-1, rfl, .inl (by omega)⟩
  · rw [show decide (left - (a.length : Int) < 0) = false by simpa using hn, cnd_ff]
    refine sz_loop' (S := S_lszPart) a (fun y => SmPart y) (by omega) (fun x hx => lszPart_v x (h.2 x hx)) (fun rec l => by simp) (fun rec k x l r hx hk hr => ?_) (by omega) (by omega) g1 (by unfold Sm; omega)
    simp [hk, getZ_at hx, W_nat (show k ≤ 9223372036854775806 by omega), hr, cnd_if]
@[simp] theorem ltoPath_v (a : Path) : S_ltoPath a = some a := rfl
theorem ltoPathS_v (a : (List Path)) (h : Sm a) : S_ltoPathS a = some a := by
  have hl := h
  unfold Sm at hl
  unfold S_ltoPathS
  simp only [rws_path, len_path, rep_path, Int.toNat_natCast]
  rw [ifA_pos (by simp <;> omega)]
  refine to_loop a _ (by omega) ?_ ?_
  · intro rec o
    simp
  · intro rec k x o hx hk ho
    have hz : o[k]? = some o[k] := List.getElem?_eq_getElem (by omega)
    have hko : k < o.length := by omega
    simp [hk, hko, getZ_at hx, getN_at hz, W_nat (show k ≤ 9223372036854775806 by omega), ltoPath_v]
theorem ltoIntS_v (a : (List Int)) (h : Sm a) : S_ltoIntS a = some a := by
  have hl := h
  unfold Sm at hl
  unfold S_ltoIntS
  simp only [rws_i, len_i, rep_i, Int.toNat_natCast]
  rw [ifA_pos (by simp <;> omega)]
  refine to_loop a _ (by omega) ?_ ?_
  · intro rec o
    simp
  · intro rec k x o hx hk ho
    have hz : o[k]? = some o[k] := List.getElem?_eq_getElem (by omega)
    have hko : k < o.length := by omega
    simp [hk, hko, getZ_at hx, getN_at hz, W_nat (show k ≤ 9223372036854775806 by omega)]
theorem ltoPart_v (a : Part) (h : SmPart a) : S_ltoPart a = some a := by
  have h0 := h
  unfold S_ltoPart
  simp [ltoIntS_v _ h0]
theorem ltoPartS_v (a : (List Part)) (h : (Sm a ∧ ∀ y ∈ a, SmPart y)) : S_ltoPartS a = some a := by
  obtain ⟨hl, he⟩ := h
  unfold Sm at hl
  unfold S_ltoPartS
  simp only [rws_part_ss, len_part, repz_part_oo, Int.toNat_natCast]
  rw [ifA_pos (by simp <;> omega)]
  refine to_loop a _ (by omega) ?_ ?_
  · intro rec o
    simp
  · intro rec k x o hx hk ho
    have hz : o[k]? = some o[k] := List.getElem?_eq_getElem (by omega)
    have hko : k < o.length := by omega
    simp [hk, hko, getZ_at hx, getN_at hz, W_nat (show k ≤ 9223372036854775806 by omega), ltoPart_v x (he x (List.mem_of_getElem? hx))]
@[simp] theorem leqPath_v (a b : Path) : S_leqPath a b = some (decide (a = b)) := by
  unfold S_leqPath
  rcases a with ⟨a0, a1, a2, a3⟩
  rcases b with ⟨b0, b1, b2, b3⟩
  simp [cnd_if]
  grind
theorem leqPathS_v (a b : (List Path)) (h : Sm a) : S_leqPathS a b = some (decide (a = b)) := by
  have hl := h
  unfold Sm at hl
  unfold S_leqPathS
  simp only [rws_path, len_path]
  by_cases hab : a.length = b.length
  · rw [show (((a.length : Nat) : Int) != ((b.length : Nat) : Int)) = false by simp [hab], cnd_ff]
    refine eq_loop a b hab (by omega) ?_ ?_
    · intro rec
      simp
    · intro rec k x y hx hy hk
      simp [hk, getZ_at hx, getZ_at hy, W_nat (show k ≤ 9223372036854775806 by omega), cnd_if, leqPath_v]
  · have hne : a ≠ b := fun e => hab (by rw [e])
    rw [show (((a.length : Nat) : Int) != ((b.length : Nat) : Int)) = true by simp; omega, cnd_tt]
    simp [hne]
theorem leqIntS_v (a b : (List Int)) (h : Sm a) : S_leqIntS a b = some (decide (a = b)) := by
  have hl := h
  unfold Sm at hl
  unfold S_leqIntS
  simp only [rws_i, len_i]
  by_cases hab : a.length = b.length
  · rw [show (((a.length : Nat) : Int) != ((b.length : Nat) : Int)) = false by simp [hab], cnd_ff]
    refine eq_loop a b hab (by omega) ?_ ?_
    · intro rec
      simp
    · intro rec k x y hx hy hk
      simp [hk, getZ_at hx, getZ_at hy, W_nat (show k ≤ 9223372036854775806 by omega), cnd_if]
  · have hne : a ≠ b := fun e => hab (by rw [e])
    rw [show (((a.length : Nat) : Int) != ((b.length : Nat) : Int)) = true by simp; omega, cnd_tt]
    simp [hne]
theorem leqPart_v (a b : Part) (h : SmPart a) : S_leqPart a b = some (decide (a = b)) := by
  have h0 := h
  unfold S_leqPart
  simp only [rws_i, leqIntS_v _ _ h0, bnd_some]
  rcases a with ⟨a0, a1⟩
  rcases b with ⟨b0, b1⟩
  simp [cnd_if]
  grind
theorem leqPartS_v (a b : (List Part)) (h : (Sm a ∧ ∀ y ∈ a, SmPart y)) : S_leqPartS a b = some (decide (a = b)) := by
  obtain ⟨hl, he⟩ := h
  unfold Sm at hl
  unfold S_leqPartS
  simp only [rws_part_ss, len_part]
  by_cases hab : a.length = b.length
  · rw [show (((a.length : Nat) : Int) != ((b.length : Nat) : Int)) = false by simp [hab], cnd_ff]
    refine eq_loop a b hab (by omega) ?_ ?_
    · intro rec
      simp
    · intro rec k x y hx hy hk
      simp [hk, getZ_at hx, getZ_at hy, W_nat (show k ≤ 9223372036854775806 by omega), cnd_if, leqPart_v x y (he x (List.mem_of_getElem? hx))]
  · have hne : a ≠ b := fun e => hab (by rw [e])
    rw [show (((a.length : Nat) : Int) != ((b.length : Nat) : Int)) = true by simp; omega, cnd_tt]
    simp [hne]
@[simp] theorem leqEvent_v (a b : Evt) : S_leqEvent a b = some (decide (a = b)) := by
  unfold S_leqEvent
  rcases a with ⟨a0, a1, a2, a3⟩
  rcases b with ⟨b0, b1, b2, b3⟩
  simp [cnd_if]
  grind
theorem leqEventS_v (a b : (List Evt)) (h : Sm a) : S_leqEventS a b = some (decide (a = b)) := by
  have hl := h
  unfold Sm at hl
  unfold S_leqEventS
  simp only [rws_evt, len_evt]
  by_cases hab : a.length = b.length
  · rw [show (((a.length : Nat) : Int) != ((b.length : Nat) : Int)) = false by simp [hab], cnd_ff]
    refine eq_loop a b hab (by omega) ?_ ?_
    · intro rec
      simp
    · intro rec k x y hx hy hk
      simp [hk, getZ_at hx, getZ_at hy, W_nat (show k ≤ 9223372036854775806 by omega), cnd_if, leqEvent_v]
  · have hne : a ≠ b := fun e => hab (by rw [e])
    rw [show (((a.length : Nat) : Int) != ((b.length : Nat) : Int)) = true by simp; omega, cnd_tt]
    simp [hne]
@[simp] theorem leqService_v (a b : Service) : S_leqService a b = some (decide (a = b)) := by
  unfold S_leqService
  rcases a with ⟨a0, a1, a2, a3⟩
  rcases b with ⟨b0, b1, b2, b3⟩
  simp [cnd_if]
  grind
theorem leqServiceS_v (a b : (List Service)) (h : Sm a) : S_leqServiceS a b = some (decide (a = b)) := by
  have hl := h
  unfold Sm at hl
  unfold S_leqServiceS
  simp only [rws_service, len_service]
  by_cases hab : a.length = b.length
  · rw [show (((a.length : Nat) : Int) != ((b.length : Nat) : Int)) = false by simp [hab], cnd_ff]
    refine eq_loop a b hab (by omega) ?_ ?_
    · intro rec
      simp
    · intro rec k x y hx hy hk
      simp [hk, getZ_at hx, getZ_at hy, W_nat (show k ≤ 9223372036854775806 by omega), cnd_if, leqService_v]
  · have hne : a ≠ b := fun e => hab (by rw [e])
    rw [show (((a.length : Nat) : Int) != ((b.length : Nat) : Int)) = true by simp; omega, cnd_tt]
    simp [hne]
theorem lszControl_v (a : Control) (h : OkControl a) : SzOk S_lszControl a (SmControl a) := by
  intro left g0 g1
  unfold S_lszControl
  obtain ⟨k0, k1, k2, k3⟩ := h
  simp only [rws_i, bnd_some]
  obtain ⟨r0, e0, d0⟩ := lszIntS_v a.stage k0 left (by omega) (by omega)
  rw [e0, bnd_some]
  by_cases n0 : r0 < 0
  · rw [show decide (r0 < 0) = true by simpa using n0, cnd_tt]
    exact ⟨-1, rfl, .inl (by omega)⟩
  rw [show decide (r0 < 0) = false by simpa using n0, cnd_ff]
  replace d0 := d0.resolve_left n0
  obtain ⟨r1, e1, d1⟩ := lszIntS_v a.next k2 r0 (by omega) (by omega)
  rw [e1, bnd_some]
  by_cases n1 : r1 < 0
  · rw [show decide (r1 < 0) = true by simpa using n1, cnd_tt]
    exact ⟨-1, rfl, .inl (by omega)⟩
  rw [show decide (r1 < 0) = false by simpa using n1, cnd_ff]
  replace d1 := d1.resolve_left n1
  exact ⟨r1, rfl, .inr ⟨by omega, by omega, ⟨d0.2.2, d1.2.2⟩⟩⟩
theorem lszWantS_v (a : (List Want)) (h : (a.length ≤ maxLen ∧ ∀ y ∈ a, OkWant y)) : SzOk S_lszWantS a (Sm a) := by
  intro left g0 g1
  unfold S_lszWantS
  have hm : a.length ≤ 9223372036854775807 := h.1
  simp only [rws_want, len_want]
  rw [W_id (by omega) (by omega)]
  by_cases hn : left - (a.length : Int) < 0
  · rw [show decide (left - (a.length : Int) < 0) = true by simpa using hn, cnd_tt]
    exact ⟨-1, rfl, .inl (by omega)⟩
  · rw [show decide (left - (a.length : Int) < 0) = false by simpa using hn, cnd_ff]
    exact ⟨_, rfl, .inr ⟨by omega, by omega, by unfold Sm; omega⟩⟩
theorem lszLampS_v (a : (List Lamp)) (h : (a.length ≤ maxLen ∧ ∀ y ∈ a, OkLamp y)) : SzOk S_lszLampS a (Sm a) := by
  intro left g0 g1
  unfold S_lszLampS
  have hm : a.length ≤ 9223372036854775807 := h.1
  simp only [rws_lamp, len_lamp]
  rw [W_id (by omega) (by omega)]
  by_cases hn : left - (a.length : Int) < 0
  · rw [show decide (left - (a.length : Int) < 0) = true by simpa using hn, cnd_tt]
    exact ⟨-1, rfl, .inl (by omega)⟩
  · rw [show decide (left - (a.length : Int) < 0) = false by simpa using hn, cnd_ff]
    exact ⟨_, rfl, .inr ⟨by omega, by omega, by unfold Sm; omega⟩⟩
theorem lszEntry_v (a : Note) (h : OkNote a) : SzOk S_lszEntry a (SmNote a) := by
  intro left g0 g1
  unfold S_lszEntry
  obtain ⟨k0, k1, k2⟩ := h
  simp only [rws_i, bnd_some]
  obtain ⟨r0, e0, d0⟩ := lszIntS_v a.lights k1 left (by omega) (by omega)
  rw [e0, bnd_some]
  by_cases n0 : r0 < 0
  · rw [show decide (r0 < 0) = true by simpa using n0, cnd_tt]
    exact ⟨-1, rfl, .inl (by omega)⟩
  rw [show decide (r0 < 0) = false by simpa using n0, cnd_ff]
  replace d0 := d0.resolve_left n0
  exact ⟨r0, rfl, .inr ⟨by omega, by omega, d0.2.2⟩⟩
theorem lszEntryS_v (a : (List Note)) (h : (a.length ≤ maxLen ∧ ∀ y ∈ a, OkNote y)) : SzOk S_lszEntryS a ((Sm a ∧ ∀ y ∈ a, SmNote y)) := by
  intro left g0 g1
  unfold S_lszEntryS
  have hm : a.length ≤ 9223372036854775807 := h.1
  simp only [rws_note_ss, len_note]
  rw [W_id (by omega) (by omega)]
  by_cases hn : left - (a.length : Int) < 0
  · rw [show decide (left - (a.length : Int) < 0) = true by simpa using hn, cnd_tt]
    exact ⟨-1, rfl, .inl (by omega)⟩
  · rw [show decide (left - (a.length : Int) < 0) = false by simpa using hn, cnd_ff]
    refine sz_loop' (S := S_lszEntry) a (fun y => SmNote y) (by omega) (fun x hx => lszEntry_v x (h.2 x hx)) (fun rec l => by simp) (fun rec k x l r hx hk hr => ?_) (by omega) (by omega) g1 (by unfold Sm; omega)
    simp [hk, getZ_at hx, W_nat (show k ≤ 9223372036854775806 by omega), hr, cnd_if]
theorem lszTown_v (a : Town) (h : OkTown a) : SzOk S_lszTown a (SmTown a) := by
  intro left g0 g1
  unfold S_lszTown
  obtain ⟨k0, k1, k2, k3, k4, k5, k6, k7, k8⟩ := h
  simp only [rws_i, rws_lamp, rws_note_ss, rws_path, rws_want, bnd_some]
  obtain ⟨r0, e0, d0⟩ := lszPathS_v a.paths k0 left (by omega) (by omega)
  rw [e0, bnd_some]
  by_cases n0 : r0 < 0
  · rw [show decide (r0 < 0) = true by simpa using n0, cnd_tt]
    exact ⟨-1, rfl, .inl (by omega)⟩
  rw [show decide (r0 < 0) = false by simpa using n0, cnd_ff]
  replace d0 := d0.resolve_left n0
  obtain ⟨r1, e1, d1⟩ := lszControl_v a.control k1 r0 (by omega) (by omega)
  rw [e1, bnd_some]
  by_cases n1 : r1 < 0
  · rw [show decide (r1 < 0) = true by simpa using n1, cnd_tt]
    exact ⟨-1, rfl, .inl (by omega)⟩
  rw [show decide (r1 < 0) = false by simpa using n1, cnd_ff]
  replace d1 := d1.resolve_left n1
  obtain ⟨r2, e2, d2⟩ := lszWantS_v a.wants k2 r1 (by omega) (by omega)
  rw [e2, bnd_some]
  by_cases n2 : r2 < 0
  · rw [show decide (r2 < 0) = true by simpa using n2, cnd_tt]
    exact ⟨-1, rfl, .inl (by omega)⟩
  rw [show decide (r2 < 0) = false by simpa using n2, cnd_ff]
  replace d2 := d2.resolve_left n2
  obtain ⟨r3, e3, d3⟩ := lszLampS_v a.lamps k4 r2 (by omega) (by omega)
  rw [e3, bnd_some]
  by_cases n3 : r3 < 0
  · rw [show decide (r3 < 0) = true by simpa using n3, cnd_tt]
    exact ⟨-1, rfl, .inl (by omega)⟩
  rw [show decide (r3 < 0) = false by simpa using n3, cnd_ff]
  replace d3 := d3.resolve_left n3
  obtain ⟨r4, e4, d4⟩ := lszEntryS_v a.record k6 r3 (by omega) (by omega)
  rw [e4, bnd_some]
  by_cases n4 : r4 < 0
  · rw [show decide (r4 < 0) = true by simpa using n4, cnd_tt]
    exact ⟨-1, rfl, .inl (by omega)⟩
  rw [show decide (r4 < 0) = false by simpa using n4, cnd_ff]
  replace d4 := d4.resolve_left n4
  exact ⟨r4, rfl, .inr ⟨by omega, by omega, ⟨d0.2.2, d1.2.2, d2.2.2, d3.2.2, d4.2.2⟩⟩⟩
theorem ltoControl_v (a : Control) (h : SmControl a) : S_ltoControl a = some a := by
  obtain ⟨h0, h1⟩ := h
  unfold S_ltoControl
  simp [ltoIntS_v _ h0, ltoIntS_v _ h1]
@[simp] theorem ltoWant_v (a : Want) : S_ltoWant a = some a := rfl
theorem ltoWantS_v (a : (List Want)) (h : Sm a) : S_ltoWantS a = some a := by
  have hl := h
  unfold Sm at hl
  unfold S_ltoWantS
  simp only [rws_want, len_want, rep_want, Int.toNat_natCast]
  rw [ifA_pos (by simp <;> omega)]
  refine to_loop a _ (by omega) ?_ ?_
  · intro rec o
    simp
  · intro rec k x o hx hk ho
    have hz : o[k]? = some o[k] := List.getElem?_eq_getElem (by omega)
    have hko : k < o.length := by omega
    simp [hk, hko, getZ_at hx, getN_at hz, W_nat (show k ≤ 9223372036854775806 by omega), ltoWant_v]
@[simp] theorem ltoPrio_v (a : Prio) : S_ltoPrio a = some a := rfl
@[simp] theorem ltoLamp_v (a : Lamp) : S_ltoLamp a = some a := rfl
theorem ltoLampS_v (a : (List Lamp)) (h : Sm a) : S_ltoLampS a = some a := by
  have hl := h
  unfold Sm at hl
  unfold S_ltoLampS
  simp only [rws_lamp, len_lamp, rep_lamp, Int.toNat_natCast]
  rw [ifA_pos (by simp <;> omega)]
  refine to_loop a _ (by omega) ?_ ?_
  · intro rec o
    simp
  · intro rec k x o hx hk ho
    have hz : o[k]? = some o[k] := List.getElem?_eq_getElem (by omega)
    have hko : k < o.length := by omega
    simp [hk, hko, getZ_at hx, getN_at hz, W_nat (show k ≤ 9223372036854775806 by omega), ltoLamp_v]
theorem ltoEntry_v (a : Note) (h : SmNote a) : S_ltoEntry a = some a := by
  have h0 := h
  unfold S_ltoEntry
  simp [ltoIntS_v _ h0]
theorem ltoEntryS_v (a : (List Note)) (h : (Sm a ∧ ∀ y ∈ a, SmNote y)) : S_ltoEntryS a = some a := by
  obtain ⟨hl, he⟩ := h
  unfold Sm at hl
  unfold S_ltoEntryS
  simp only [rws_note_ss, len_note, repz_note_oo, Int.toNat_natCast]
  rw [ifA_pos (by simp <;> omega)]
  refine to_loop a _ (by omega) ?_ ?_
  · intro rec o
    simp
  · intro rec k x o hx hk ho
    have hz : o[k]? = some o[k] := List.getElem?_eq_getElem (by omega)
    have hko : k < o.length := by omega
    simp [hk, hko, getZ_at hx, getN_at hz, W_nat (show k ≤ 9223372036854775806 by omega), ltoEntry_v x (he x (List.mem_of_getElem? hx))]
theorem ltoTown_v (a : Town) (h : SmTown a) : S_ltoTown a = some a := by
  obtain ⟨h0, h1, h2, h3, h4⟩ := h
  unfold S_ltoTown
  simp [ltoPathS_v _ h0, ltoControl_v _ h1, ltoWantS_v _ h2, ltoLampS_v _ h3, ltoEntryS_v _ h4, ltoPrio_v]
theorem leqControl_v (a b : Control) (h : SmControl a) : S_leqControl a b = some (decide (a = b)) := by
  obtain ⟨h0, h1⟩ := h
  unfold S_leqControl
  simp only [rws_i, leqIntS_v _ _ h0, leqIntS_v _ _ h1, bnd_some]
  rcases a with ⟨a0, a1, a2, a3⟩
  rcases b with ⟨b0, b1, b2, b3⟩
  simp [cnd_if]
  grind
@[simp] theorem leqWant_v (a b : Want) : S_leqWant a b = some (decide (a = b)) := by
  unfold S_leqWant
  rcases a with ⟨a0, a1⟩
  rcases b with ⟨b0, b1⟩
  simp [cnd_if]
  grind
theorem leqWantS_v (a b : (List Want)) (h : Sm a) : S_leqWantS a b = some (decide (a = b)) := by
  have hl := h
  unfold Sm at hl
  unfold S_leqWantS
  simp only [rws_want, len_want]
  by_cases hab : a.length = b.length
  · rw [show (((a.length : Nat) : Int) != ((b.length : Nat) : Int)) = false by simp [hab], cnd_ff]
    refine eq_loop a b hab (by omega) ?_ ?_
    · intro rec
      simp
    · intro rec k x y hx hy hk
      simp [hk, getZ_at hx, getZ_at hy, W_nat (show k ≤ 9223372036854775806 by omega), cnd_if, leqWant_v]
  · have hne : a ≠ b := fun e => hab (by rw [e])
    rw [show (((a.length : Nat) : Int) != ((b.length : Nat) : Int)) = true by simp; omega, cnd_tt]
    simp [hne]
@[simp] theorem leqPrio_v (a b : Prio) : S_leqPrio a b = some (decide (a = b)) := by
  unfold S_leqPrio
  rcases a with ⟨a0, a1⟩
  rcases b with ⟨b0, b1⟩
  simp [cnd_if]
  grind
@[simp] theorem leqLamp_v (a b : Lamp) : S_leqLamp a b = some (decide (a = b)) := by
  unfold S_leqLamp
  rcases a with ⟨a0, a1, a2⟩
  rcases b with ⟨b0, b1, b2⟩
  simp [cnd_if]
  grind
theorem leqLampS_v (a b : (List Lamp)) (h : Sm a) : S_leqLampS a b = some (decide (a = b)) := by
  have hl := h
  unfold Sm at hl
  unfold S_leqLampS
  simp only [rws_lamp, len_lamp]
  by_cases hab : a.length = b.length
  · rw [show (((a.length : Nat) : Int) != ((b.length : Nat) : Int)) = false by simp [hab], cnd_ff]
    refine eq_loop a b hab (by omega) ?_ ?_
    · intro rec
      simp
    · intro rec k x y hx hy hk
      simp [hk, getZ_at hx, getZ_at hy, W_nat (show k ≤ 9223372036854775806 by omega), cnd_if, leqLamp_v]
  · have hne : a ≠ b := fun e => hab (by rw [e])
    rw [show (((a.length : Nat) : Int) != ((b.length : Nat) : Int)) = true by simp; omega, cnd_tt]
    simp [hne]
theorem leqEntry_v (a b : Note) (h : SmNote a) : S_leqEntry a b = some (decide (a = b)) := by
  have h0 := h
  unfold S_leqEntry
  simp only [rws_i, leqIntS_v _ _ h0, bnd_some]
  rcases a with ⟨a0, a1, a2⟩
  rcases b with ⟨b0, b1, b2⟩
  simp [cnd_if]
  grind
theorem leqEntryS_v (a b : (List Note)) (h : (Sm a ∧ ∀ y ∈ a, SmNote y)) : S_leqEntryS a b = some (decide (a = b)) := by
  obtain ⟨hl, he⟩ := h
  unfold Sm at hl
  unfold S_leqEntryS
  simp only [rws_note_ss, len_note]
  by_cases hab : a.length = b.length
  · rw [show (((a.length : Nat) : Int) != ((b.length : Nat) : Int)) = false by simp [hab], cnd_ff]
    refine eq_loop a b hab (by omega) ?_ ?_
    · intro rec
      simp
    · intro rec k x y hx hy hk
      simp [hk, getZ_at hx, getZ_at hy, W_nat (show k ≤ 9223372036854775806 by omega), cnd_if, leqEntry_v x y (he x (List.mem_of_getElem? hx))]
  · have hne : a ≠ b := fun e => hab (by rw [e])
    rw [show (((a.length : Nat) : Int) != ((b.length : Nat) : Int)) = true by simp; omega, cnd_tt]
    simp [hne]
theorem leqTown_v (a b : Town) (h : SmTown a) : S_leqTown a b = some (decide (a = b)) := by
  obtain ⟨h0, h1, h2, h3, h4⟩ := h
  unfold S_leqTown
  simp only [rws_i, rws_lamp, rws_note_ss, rws_path, rws_want, leqPathS_v _ _ h0, leqControl_v _ _ h1, leqWantS_v _ _ h2, leqLampS_v _ _ h3, leqEntryS_v _ _ h4, leqPrio_v, bnd_some]
  rcases a with ⟨a0, ⟨a1_0, a1_1, a1_2, a1_3⟩, a2, ⟨a3_0, a3_1⟩, a4, a5, a6, a7, a8⟩
  rcases b with ⟨b0, ⟨b1_0, b1_1, b1_2, b1_3⟩, b2, ⟨b3_0, b3_1⟩, b4, b5, b6, b7, b8⟩
  simp [cnd_if]
  grind
@[simp] theorem leqReport_v (a b : Report) : S_leqReport a b = some (decide (a = b)) := by
  unfold S_leqReport
  rcases a with ⟨a0, a1, a2, a3, a4⟩
  rcases b with ⟨b0, b1, b2, b3, b4⟩
  simp [cnd_if]
  grind
end Go.Sh
