/- Part of the proof: see the last text of the claim. -/
import Derived.Test.YtiidjcgodncncaaGreatGTyLM
import Derived.Test.YtiidjcgodncncaaGreatShM
set_option linter.all false
namespace Go.Sh
open Go.Fx
def OkPath (s : Path) : Prop := Rg s.id ∧ Rg s.kind ∧ Rg s.src ∧ Rg s.dst
def shPath : Sh := .st 4 [.int .i64, .int .i64, .int .i64, .int .i64]
theorem reads_path : Reads shPath pathR OkPath := reads_map (reads_st (readF_co reads_int (readF_co reads_int (readF_co reads_int (readF_one reads_int))))) (fun _ h => h)
def SmControl (s : Control) : Prop := Sm s.stage ∧ Sm s.next
def OkControl (s : Control) : Prop := (s.stage.length ≤ maxLen ∧ ∀ y ∈ s.stage, Rg y) ∧ Rg s.since ∧ (s.next.length ≤ maxLen ∧ ∀ y ∈ s.next, Rg y) ∧ Rg s.left
def shControl : Sh := .st 4 [.sl 1 (.int .i64), .int .i64, .sl 1 (.int .i64), .int .i64]
theorem reads_control : Reads shControl (controlR .shr .shr) OkControl := reads_map (reads_st (readF_co (reads_sl 1 reads_int) (readF_co reads_int (readF_co (reads_sl 1 reads_int) (readF_one reads_int))))) (fun _ h => h)
def OkWant (s : Want) : Prop := Rg s.path ∧ Rg s.wait
def shWant : Sh := .st 2 [.int .i64, .int .i64]
theorem reads_want : Reads shWant wantR OkWant := reads_map (reads_st (readF_co reads_int (readF_one reads_int))) (fun _ h => h)
def OkPrio (s : Prio) : Prop := Rg s.path ∧ Rg s.left
def shPrio : Sh := .st 2 [.int .i64, .int .i64]
theorem reads_prio : Reads shPrio prioR OkPrio := reads_map (reads_st (readF_co reads_int (readF_one reads_int))) (fun _ h => h)
def OkLamp (s : Lamp) : Prop := Rg s.path ∧ Rg s.colour ∧ True
def shLamp : Sh := .st 3 [.int .i64, .int .i64, .bool]
theorem reads_lamp : Reads shLamp lampR OkLamp := reads_map (reads_st (readF_co reads_int (readF_co reads_int (readF_one reads_bool)))) (fun _ h => h)
def SmNote (s : Note) : Prop := Sm s.lights
def OkNote (s : Note) : Prop := Rg s.second ∧ (s.lights.length ≤ maxLen ∧ ∀ y ∈ s.lights, Rg y) ∧ Rg s.sig
def shNote : Sh := .st 3 [.int .i64, .sl 1 (.int .i64), .int .i64]
theorem reads_note : Reads shNote (noteR .shr) OkNote := reads_map (reads_st (readF_co reads_int (readF_co (reads_sl 1 reads_int) (readF_one reads_int)))) (fun _ h => h)
def SmTown (s : Town) : Prop := Sm s.paths ∧ SmControl s.control ∧ Sm s.wants ∧ Sm s.lamps ∧ (Sm s.record ∧ ∀ y ∈ s.record, SmNote y)
def OkTown (s : Town) : Prop := (s.paths.length ≤ maxLen ∧ ∀ y ∈ s.paths, OkPath y) ∧ OkControl s.control ∧ (s.wants.length ≤ maxLen ∧ ∀ y ∈ s.wants, OkWant y) ∧ OkPrio s.prio ∧ (s.lamps.length ≤ maxLen ∧ ∀ y ∈ s.lamps, OkLamp y) ∧ True ∧ (s.record.length ≤ maxLen ∧ ∀ y ∈ s.record, OkNote y) ∧ Rg s.books ∧ Rg s.now
def shTown : Sh := .st 13 [.sl 4 (shPath), shControl, .sl 2 (shWant), shPrio, .sl 3 (shLamp), .bool, .sl 3 (shNote), .int .i64, .int .i64]
theorem reads_town : Reads shTown (townR .shr .shr .shr .shr .shr .shr .shr) OkTown := reads_map (reads_st (readF_co (reads_sl 4 reads_path) (readF_ap reads_control (readF_co (reads_sl 2 reads_want) (readF_ap reads_prio (readF_co (reads_sl 3 reads_lamp) (readF_co reads_bool (readF_co (reads_sl 3 reads_note) (readF_co reads_int (readF_one reads_int)))))))))) (fun _ h => h)
def OkEvt (s : Evt) : Prop := Rg s.kind ∧ Rg s.path ∧ Rg s.n ∧ True
def shEvt : Sh := .st 4 [.int .i64, .int .i64, .int .i64, .bool]
theorem reads_evt : Reads shEvt evtR OkEvt := reads_map (reads_st (readF_co reads_int (readF_co reads_int (readF_co reads_int (readF_one reads_bool))))) (fun _ h => h)
theorem lszPathS_v (a : (List Path)) (h : (a.length ≤ maxLen ∧ ∀ y ∈ a, OkPath y)) : SzOk S_lszPathS a (Sm a) := by
  intro left g0 g1
  unfold S_lszPathS
  have hm : a.length ≤ 9223372036854775807 := h.1
  simp only [rC_v, rT_ss, rT_so, rT_oo, rT_uu, rws_path, len_path]
  rw [W_id (by omega) (by omega)]
  by_cases hn : left - (a.length : Int) < 0
  · rw [show decide (left - (a.length : Int) < 0) = true by simpa using hn, cnd_tt]
    exact ⟨-1, rfl, .inl (by omega)⟩
  · rw [show decide (left - (a.length : Int) < 0) = false by simpa using hn, cnd_ff]
    exact ⟨_, rfl, .inr ⟨by omega, by omega, by unfold Sm; omega⟩⟩
theorem lszIntS_v (a : (List Int)) (h : (a.length ≤ maxLen ∧ ∀ y ∈ a, Rg y)) : SzOk S_lszIntS a (Sm a) := by
  intro left g0 g1
  unfold S_lszIntS
  have hm : a.length ≤ 9223372036854775807 := h.1
  simp only [rC_v, rT_ss, rT_so, rT_oo, rT_uu, rws_i, len_i]
  rw [W_id (by omega) (by omega)]
  by_cases hn : left - (a.length : Int) < 0
  · rw [show decide (left - (a.length : Int) < 0) = true by simpa using hn, cnd_tt]
    exact ⟨-1, rfl, .inl (by omega)⟩
  · rw [show decide (left - (a.length : Int) < 0) = false by simpa using hn, cnd_ff]
    exact ⟨_, rfl, .inr ⟨by omega, by omega, by unfold Sm; omega⟩⟩
theorem lszControl_v (a : Control) (h : OkControl a) : SzOk S_lszControl a (SmControl a) := by
  intro left g0 g1
  unfold S_lszControl
  obtain ⟨k0, k1, k2, k3⟩ := h
  simp only [rC_v, rT_ss, rT_so, rT_oo, rT_uu, rws_i, bnd_some]
  obtain ⟨r0, e0, d0⟩ := lszIntS_v a.stage k0 left (by omega) (by omega)
  rw [e0, bnd_some]
  by_cases n0 : r0 < 0
  · rw [show decide (r0 < 0) = true by simpa using n0, cnd_tt]
    exact ⟨-1, rfl, .inl (by omega)⟩
  rw [show decide (r0 < 0) = false by simpa using n0, cnd_ff]
  replace d0 := d0.resolve_left n0
  obtain ⟨r1, e1, d1⟩ := lszIntS_v a.next k2 r0 (by omega) (by omega)
  rw [e1, bnd_some]
  by_cases n1 : r1 < 0
  · rw [show decide (r1 < 0) = true by simpa using n1, cnd_tt]
    exact ⟨-1, rfl, .inl (by omega)⟩
  rw [show decide (r1 < 0) = false by simpa using n1, cnd_ff]
  replace d1 := d1.resolve_left n1
  exact ⟨r1, rfl, .inr ⟨by omega, by omega, ⟨d0.2.2, d1.2.2⟩⟩⟩
theorem lszWantS_v (a : (List Want)) (h : (a.length ≤ maxLen ∧ ∀ y ∈ a, OkWant y)) : SzOk S_lszWantS a (Sm a) := by
  intro left g0 g1
  unfold S_lszWantS
  have hm : a.length ≤ 9223372036854775807 := h.1
  simp only [rC_v, rT_ss, rT_so, rT_oo, rT_uu, rws_want, len_want]
  rw [W_id (by omega) (by omega)]
  by_cases hn : left - (a.length : Int) < 0
  · rw [show decide (left - (a.length : Int) < 0) = true by simpa using hn, cnd_tt]
    exact ⟨-1, rfl, .inl (by omega)⟩
  · rw [show decide (left - (a.length : Int) < 0) = false by simpa using hn, cnd_ff]
    exact ⟨_, rfl, .inr ⟨by omega, by omega, by unfold Sm; omega⟩⟩
theorem lszLampS_v (a : (List Lamp)) (h : (a.length ≤ maxLen ∧ ∀ y ∈ a, OkLamp y)) : SzOk S_lszLampS a (Sm a) := by
  intro left g0 g1
  unfold S_lszLampS
  have hm : a.length ≤ 9223372036854775807 := h.1
  simp only [rC_v, rT_ss, rT_so, rT_oo, rT_uu, rws_lamp, len_lamp]
  rw [W_id (by omega) (by omega)]
  by_cases hn : left - (a.length : Int) < 0
  · rw [show decide (left - (a.length : Int) < 0) = true by simpa using hn, cnd_tt]
    exact ⟨-1, rfl, .inl (by omega)⟩
  · rw [show decide (left - (a.length : Int) < 0) = false by simpa using hn, cnd_ff]
    exact ⟨_, rfl, .inr ⟨by omega, by omega, by unfold Sm; omega⟩⟩
theorem lszEntry_v (a : Note) (h : OkNote a) : SzOk S_lszEntry a (SmNote a) := by
  intro left g0 g1
  unfold S_lszEntry
  obtain ⟨k0, k1, k2⟩ := h
  simp only [rC_v, rT_ss, rT_so, rT_oo, rT_uu, rws_i, bnd_some]
  obtain ⟨r0, e0, d0⟩ := lszIntS_v a.lights k1 left (by omega) (by omega)
  rw [e0, bnd_some]
  by_cases n0 : r0 < 0
  · rw [show decide (r0 < 0) = true by simpa using n0, cnd_tt]
    exact ⟨-1, rfl, .inl (by omega)⟩
  rw [show decide (r0 < 0) = false by simpa using n0, cnd_ff]
  replace d0 := d0.resolve_left n0
  exact ⟨r0, rfl, .inr ⟨by omega, by omega, d0.2.2⟩⟩
theorem lszEntryS_v (a : (List Note)) (h : (a.length ≤ maxLen ∧ ∀ y ∈ a, OkNote y)) : SzOk S_lszEntryS a ((Sm a ∧ ∀ y ∈ a, SmNote y)) := by
  intro left g0 g1
  unfold S_lszEntryS
  have hm : a.length ≤ 9223372036854775807 := h.1
  simp only [rC_v, rT_ss, rT_so, rT_oo, rT_uu, rws_note_ss, len_note]
  rw [W_id (by omega) (by omega)]
  by_cases hn : left - (a.length : Int) < 0
  · rw [show decide (left - (a.length : Int) < 0) = true by simpa using hn, cnd_tt]
    exact ⟨-1, rfl, .inl (by omega)⟩
  · rw [show decide (left - (a.length : Int) < 0) = false by simpa using hn, cnd_ff]
    refine sz_loop' (S := S_lszEntry) a (fun y => SmNote y) (by omega) (fun x hx => lszEntry_v x (h.2 x hx)) (fun rec l => by simp) (fun rec k x l r hx hk hr => ?_) (by omega) (by omega) g1 (by unfold Sm; omega)
    simp [hk, getZ_at hx, W_nat (show k ≤ 9223372036854775806 by omega), hr, cnd_if]
theorem lszTown_v (a : Town) (h : OkTown a) : SzOk S_lszTown a (SmTown a) := by
  intro left g0 g1
  unfold S_lszTown
  obtain ⟨k0, k1, k2, k3, k4, k5, k6, k7, k8⟩ := h
  simp only [rC_v, rT_ss, rT_so, rT_oo, rT_uu, rws_i, rws_lamp, rws_note_ss, rws_path, rws_want, bnd_some]
  obtain ⟨r0, e0, d0⟩ := lszPathS_v a.paths k0 left (by omega) (by omega)
  rw [e0, bnd_some]
  by_cases n0 : r0 < 0
  · rw [show decide (r0 < 0) = true by simpa using n0, cnd_tt]
    exact ⟨-1, rfl, .inl (by omega)⟩
  rw [show decide (r0 < 0) = false by simpa using n0, cnd_ff]
  replace d0 := d0.resolve_left n0
  obtain ⟨r1, e1, d1⟩ := lszControl_v a.control k1 r0 (by omega) (by omega)
  rw [e1, bnd_some]
  by_cases n1 : r1 < 0
  · rw [show decide (r1 < 0) = true by simpa using n1, cnd_tt]
    exact ⟨-1, rfl, .inl (by omega)⟩
  rw [show decide (r1 < 0) = false by simpa using n1, cnd_ff]
  replace d1 := d1.resolve_left n1
  obtain ⟨r2, e2, d2⟩ := lszWantS_v a.wants k2 r1 (by omega) (by omega)
  rw [e2, bnd_some]
  by_cases n2 : r2 < 0
  · rw [show decide (r2 < 0) = true by simpa using n2, cnd_tt]
    exact ⟨-1, rfl, .inl (by omega)⟩
  rw [show decide (r2 < 0) = false by simpa using n2, cnd_ff]
  replace d2 := d2.resolve_left n2
  obtain ⟨r3, e3, d3⟩ := lszLampS_v a.lamps k4 r2 (by omega) (by omega)
  rw [e3, bnd_some]
  by_cases n3 : r3 < 0
  · rw [show decide (r3 < 0) = true by simpa using n3, cnd_tt]
    exact ⟨-1, rfl, .inl (by omega)⟩
  rw [show decide (r3 < 0) = false by simpa using n3, cnd_ff]
  replace d3 := d3.resolve_left n3
  obtain ⟨r4, e4, d4⟩ := lszEntryS_v a.record k6 r3 (by omega) (by omega)
  rw [e4, bnd_some]
  by_cases n4 : r4 < 0
  · rw [show decide (r4 < 0) = true by simpa using n4, cnd_tt]
    exact ⟨-1, rfl, .inl (by omega)⟩
  rw [show decide (r4 < 0) = false by simpa using n4, cnd_ff]
  replace d4 := d4.resolve_left n4
  exact ⟨r4, rfl, .inr ⟨by omega, by omega, ⟨d0.2.2, d1.2.2, d2.2.2, d3.2.2, d4.2.2⟩⟩⟩
@[simp] theorem ltoPath_v (a : Path) : S_ltoPath a = some a := rfl
theorem ltoPathS_v (a : (List Path)) (h : Sm a) : S_ltoPathS a = some a := by
  have hl := h
  unfold Sm at hl
  unfold S_ltoPathS
  simp only [rC_v, rT_ss, rT_so, rT_oo, rT_uu, rws_path, len_path, rep_path, Int.toNat_natCast]
  rw [ifA_pos (by simp <;> omega)]
  refine to_loop a _ (by omega) ?_ ?_
  · intro rec o
    simp
  · intro rec k x o hx hk ho
    have hz : o[k]? = some o[k] := List.getElem?_eq_getElem (by omega)
    have hko : k < o.length := by omega
    simp [hk, hko, getZ_at hx, getN_at hz, W_nat (show k ≤ 9223372036854775806 by omega), ltoPath_v]
theorem ltoIntS_v (a : (List Int)) (h : Sm a) : S_ltoIntS a = some a := by
  have hl := h
  unfold Sm at hl
  unfold S_ltoIntS
  simp only [rC_v, rT_ss, rT_so, rT_oo, rT_uu, rws_i, len_i, rep_i, Int.toNat_natCast]
  rw [ifA_pos (by simp <;> omega)]
  refine to_loop a _ (by omega) ?_ ?_
  · intro rec o
    simp
  · intro rec k x o hx hk ho
    have hz : o[k]? = some o[k] := List.getElem?_eq_getElem (by omega)
    have hko : k < o.length := by omega
    simp [hk, hko, getZ_at hx, getN_at hz, W_nat (show k ≤ 9223372036854775806 by omega)]
theorem ltoControl_v (a : Control) (h : SmControl a) : S_ltoControl a = some a := by
  obtain ⟨h0, h1⟩ := h
  unfold S_ltoControl
  simp [ltoIntS_v _ h0, ltoIntS_v _ h1]
@[simp] theorem ltoWant_v (a : Want) : S_ltoWant a = some a := rfl
theorem ltoWantS_v (a : (List Want)) (h : Sm a) : S_ltoWantS a = some a := by
  have hl := h
  unfold Sm at hl
  unfold S_ltoWantS
  simp only [rC_v, rT_ss, rT_so, rT_oo, rT_uu, rws_want, len_want, rep_want, Int.toNat_natCast]
  rw [ifA_pos (by simp <;> omega)]
  refine to_loop a _ (by omega) ?_ ?_
  · intro rec o
    simp
  · intro rec k x o hx hk ho
    have hz : o[k]? = some o[k] := List.getElem?_eq_getElem (by omega)
    have hko : k < o.length := by omega
    simp [hk, hko, getZ_at hx, getN_at hz, W_nat (show k ≤ 9223372036854775806 by omega), ltoWant_v]
@[simp] theorem ltoPrio_v (a : Prio) : S_ltoPrio a = some a := rfl
@[simp] theorem ltoLamp_v (a : Lamp) : S_ltoLamp a = some a := rfl
theorem ltoLampS_v (a : (List Lamp)) (h : Sm a) : S_ltoLampS a = some a := by
  have hl := h
  unfold Sm at hl
  unfold S_ltoLampS
  simp only [rC_v, rT_ss, rT_so, rT_oo, rT_uu, rws_lamp, len_lamp, rep_lamp, Int.toNat_natCast]
  rw [ifA_pos (by simp <;> omega)]
  refine to_loop a _ (by omega) ?_ ?_
  · intro rec o
    simp
  · intro rec k x o hx hk ho
    have hz : o[k]? = some o[k] := List.getElem?_eq_getElem (by omega)
    have hko : k < o.length := by omega
    simp [hk, hko, getZ_at hx, getN_at hz, W_nat (show k ≤ 9223372036854775806 by omega), ltoLamp_v]
theorem ltoEntry_v (a : Note) (h : SmNote a) : S_ltoEntry a = some a := by
  have h0 := h
  unfold S_ltoEntry
  simp [ltoIntS_v _ h0]
theorem ltoEntryS_v (a : (List Note)) (h : (Sm a ∧ ∀ y ∈ a, SmNote y)) : S_ltoEntryS a = some a := by
  obtain ⟨hl, he⟩ := h
  unfold Sm at hl
  unfold S_ltoEntryS
  simp only [rC_v, rT_ss, rT_so, rT_oo, rT_uu, rws_note_ss, len_note, repz_note_oo, Int.toNat_natCast]
  rw [ifA_pos (by simp <;> omega)]
  refine to_loop a _ (by omega) ?_ ?_
  · intro rec o
    simp
  · intro rec k x o hx hk ho
    have hz : o[k]? = some o[k] := List.getElem?_eq_getElem (by omega)
    have hko : k < o.length := by omega
    simp [hk, hko, getZ_at hx, getN_at hz, W_nat (show k ≤ 9223372036854775806 by omega), ltoEntry_v x (he x (List.mem_of_getElem? hx))]
theorem ltoTown_v (a : Town) (h : SmTown a) : S_ltoTown a = some a := by
  obtain ⟨h0, h1, h2, h3, h4⟩ := h
  unfold S_ltoTown
  simp [ltoPathS_v _ h0, ltoControl_v _ h1, ltoWantS_v _ h2, ltoLampS_v _ h3, ltoEntryS_v _ h4, ltoPrio_v]
@[simp] theorem ltoEvent_v (a : Evt) : S_ltoEvent a = some a := rfl
@[simp] theorem leqPath_v (a b : Path) : S_leqPath a b = some (decide (a = b)) := by
  unfold S_leqPath
  rcases a with ⟨a0, a1, a2, a3⟩
  rcases b with ⟨b0, b1, b2, b3⟩
  simp [cnd_if]
  grind
theorem leqPathS_v (a b : (List Path)) (h : Sm a) : S_leqPathS a b = some (decide (a = b)) := by
  have hl := h
  unfold Sm at hl
  unfold S_leqPathS
  simp only [rC_v, rT_ss, rT_so, rT_oo, rT_uu, rws_path, len_path]
  by_cases hab : a.length = b.length
  · rw [show (((a.length : Nat) : Int) != ((b.length : Nat) : Int)) = false by simp [hab], cnd_ff]
    refine eq_loop a b hab (by omega) ?_ ?_
    · intro rec
      simp
    · intro rec k x y hx hy hk
      simp [hk, getZ_at hx, getZ_at hy, W_nat (show k ≤ 9223372036854775806 by omega), cnd_if, leqPath_v]
  · have hne : a ≠ b := fun e => hab (by rw [e])
    rw [show (((a.length : Nat) : Int) != ((b.length : Nat) : Int)) = true by simp; omega, cnd_tt]
    simp [hne]
theorem leqIntS_v (a b : (List Int)) (h : Sm a) : S_leqIntS a b = some (decide (a = b)) := by
  have hl := h
  unfold Sm at hl
  unfold S_leqIntS
  simp only [rC_v, rT_ss, rT_so, rT_oo, rT_uu, rws_i, len_i]
  by_cases hab : a.length = b.length
  · rw [show (((a.length : Nat) : Int) != ((b.length : Nat) : Int)) = false by simp [hab], cnd_ff]
    refine eq_loop a b hab (by omega) ?_ ?_
    · intro rec
      simp
    · intro rec k x y hx hy hk
      simp [hk, getZ_at hx, getZ_at hy, W_nat (show k ≤ 9223372036854775806 by omega), cnd_if]
  · have hne : a ≠ b := fun e => hab (by rw [e])
    rw [show (((a.length : Nat) : Int) != ((b.length : Nat) : Int)) = true by simp; omega, cnd_tt]
    simp [hne]
theorem leqControl_v (a b : Control) (h : SmControl a) : S_leqControl a b = some (decide (a = b)) := by
  obtain ⟨h0, h1⟩ := h
  unfold S_leqControl
  simp only [rC_v, rT_ss, rT_so, rT_oo, rT_uu, rws_i, leqIntS_v _ _ h0, leqIntS_v _ _ h1, bnd_some]
  rcases a with ⟨a0, a1, a2, a3⟩
  rcases b with ⟨b0, b1, b2, b3⟩
  simp [cnd_if]
  grind
@[simp] theorem leqWant_v (a b : Want) : S_leqWant a b = some (decide (a = b)) := by
  unfold S_leqWant
  rcases a with ⟨a0, a1⟩
  rcases b with ⟨b0, b1⟩
  simp [cnd_if]
  grind
theorem leqWantS_v (a b : (List Want)) (h : Sm a) : S_leqWantS a b = some (decide (a = b)) := by
  have hl := h
  unfold Sm at hl
  unfold S_leqWantS
  simp only [rC_v, rT_ss, rT_so, rT_oo, rT_uu, rws_want, len_want]
  by_cases hab : a.length = b.length
  · rw [show (((a.length : Nat) : Int) != ((b.length : Nat) : Int)) = false by simp [hab], cnd_ff]
    refine eq_loop a b hab (by omega) ?_ ?_
    · intro rec
      simp
    · intro rec k x y hx hy hk
      simp [hk, getZ_at hx, getZ_at hy, W_nat (show k ≤ 9223372036854775806 by omega), cnd_if, leqWant_v]
  · have hne : a ≠ b := fun e => hab (by rw [e])
    rw [show (((a.length : Nat) : Int) != ((b.length : Nat) : Int)) = true by simp; omega, cnd_tt]
    simp [hne]
@[simp] theorem leqPrio_v (a b : Prio) : S_leqPrio a b = some (decide (a = b)) := by
  unfold S_leqPrio
  rcases a with ⟨a0, a1⟩
  rcases b with ⟨b0, b1⟩
  simp [cnd_if]
  grind
@[simp] theorem leqLamp_v (a b : Lamp) : S_leqLamp a b = some (decide (a = b)) := by
  unfold S_leqLamp
  rcases a with ⟨a0, a1, a2⟩
  rcases b with ⟨b0, b1, b2⟩
  simp [cnd_if]
  grind
theorem leqLampS_v (a b : (List Lamp)) (h : Sm a) : S_leqLampS a b = some (decide (a = b)) := by
  have hl := h
  unfold Sm at hl
  unfold S_leqLampS
  simp only [rC_v, rT_ss, rT_so, rT_oo, rT_uu, rws_lamp, len_lamp]
  by_cases hab : a.length = b.length
  · rw [show (((a.length : Nat) : Int) != ((b.length : Nat) : Int)) = false by simp [hab], cnd_ff]
    refine eq_loop a b hab (by omega) ?_ ?_
    · intro rec
      simp
    · intro rec k x y hx hy hk
      simp [hk, getZ_at hx, getZ_at hy, W_nat (show k ≤ 9223372036854775806 by omega), cnd_if, leqLamp_v]
  · have hne : a ≠ b := fun e => hab (by rw [e])
    rw [show (((a.length : Nat) : Int) != ((b.length : Nat) : Int)) = true by simp; omega, cnd_tt]
    simp [hne]
theorem leqEntry_v (a b : Note) (h : SmNote a) : S_leqEntry a b = some (decide (a = b)) := by
  have h0 := h
  unfold S_leqEntry
  simp only [rC_v, rT_ss, rT_so, rT_oo, rT_uu, rws_i, leqIntS_v _ _ h0, bnd_some]
  rcases a with ⟨a0, a1, a2⟩
  rcases b with ⟨b0, b1, b2⟩
  simp [cnd_if]
  grind
theorem leqEntryS_v (a b : (List Note)) (h : (Sm a ∧ ∀ y ∈ a, SmNote y)) : S_leqEntryS a b = some (decide (a = b)) := by
  obtain ⟨hl, he⟩ := h
  unfold Sm at hl
  unfold S_leqEntryS
  simp only [rC_v, rT_ss, rT_so, rT_oo, rT_uu, rws_note_ss, len_note]
  by_cases hab : a.length = b.length
  · rw [show (((a.length : Nat) : Int) != ((b.length : Nat) : Int)) = false by simp [hab], cnd_ff]
    refine eq_loop a b hab (by omega) ?_ ?_
    · intro rec
      simp
    · intro rec k x y hx hy hk
      simp [hk, getZ_at hx, getZ_at hy, W_nat (show k ≤ 9223372036854775806 by omega), cnd_if, leqEntry_v x y (he x (List.mem_of_getElem? hx))]
  · have hne : a ≠ b := fun e => hab (by rw [e])
    rw [show (((a.length : Nat) : Int) != ((b.length : Nat) : Int)) = true by simp; omega, cnd_tt]
    simp [hne]
theorem leqTown_v (a b : Town) (h : SmTown a) : S_leqTown a b = some (decide (a = b)) := by
  obtain ⟨h0, h1, h2, h3, h4⟩ := h
  unfold S_leqTown
  simp only [rC_v, rT_ss, rT_so, rT_oo, rT_uu, rws_i, rws_lamp, rws_note_ss, rws_path, rws_want, leqPathS_v _ _ h0, leqControl_v _ _ h1, leqWantS_v _ _ h2, leqLampS_v _ _ h3, leqEntryS_v _ _ h4, leqPrio_v, bnd_some]
  rcases a with ⟨a0, ⟨a1_0, a1_1, a1_2, a1_3⟩, a2, ⟨a3_0, a3_1⟩, a4, a5, a6, a7, a8⟩
  rcases b with ⟨b0, ⟨b1_0, b1_1, b1_2, b1_3⟩, b2, ⟨b3_0, b3_1⟩, b4, b5, b6, b7, b8⟩
  simp [cnd_if]
  grind
theorem lszEventS_v (a : (List Evt)) (h : (a.length ≤ maxLen ∧ ∀ y ∈ a, OkEvt y)) : SzOk S_lszEventS a (Sm a) := by
  intro left g0 g1
  unfold S_lszEventS
  have hm : a.length ≤ 9223372036854775807 := h.1
  simp only [rC_v, rT_ss, rT_so, rT_oo, rT_uu, rws_evt, len_evt]
  rw [W_id (by omega) (by omega)]
  by_cases hn : left - (a.length : Int) < 0
  · rw [show decide (left - (a.length : Int) < 0) = true by simpa using hn, cnd_tt]
    exact ⟨-1, rfl, .inl (by omega)⟩
  · rw [show decide (left - (a.length : Int) < 0) = false by simpa using hn, cnd_ff]
    exact ⟨_, rfl, .inr ⟨by omega, by omega, by unfold Sm; omega⟩⟩
theorem ltoEventS_v (a : (List Evt)) (h : Sm a) : S_ltoEventS a = some a := by
  have hl := h
  unfold Sm at hl
  unfold S_ltoEventS
  simp only [rC_v, rT_ss, rT_so, rT_oo, rT_uu, rws_evt, len_evt, rep_evt, Int.toNat_natCast]
  rw [ifA_pos (by simp <;> omega)]
  refine to_loop a _ (by omega) ?_ ?_
  · intro rec o
    simp
  · intro rec k x o hx hk ho
    have hz : o[k]? = some o[k] := List.getElem?_eq_getElem (by omega)
    have hko : k < o.length := by omega
    simp [hk, hko, getZ_at hx, getN_at hz, W_nat (show k ≤ 9223372036854775806 by omega), ltoEvent_v]
@[simp] theorem leqEvent_v (a b : Evt) : S_leqEvent a b = some (decide (a = b)) := by
  unfold S_leqEvent
  rcases a with ⟨a0, a1, a2, a3⟩
  rcases b with ⟨b0, b1, b2, b3⟩
  simp [cnd_if]
  grind
theorem leqEventS_v (a b : (List Evt)) (h : Sm a) : S_leqEventS a b = some (decide (a = b)) := by
  have hl := h
  unfold Sm at hl
  unfold S_leqEventS
  simp only [rC_v, rT_ss, rT_so, rT_oo, rT_uu, rws_evt, len_evt]
  by_cases hab : a.length = b.length
  · rw [show (((a.length : Nat) : Int) != ((b.length : Nat) : Int)) = false by simp [hab], cnd_ff]
    refine eq_loop a b hab (by omega) ?_ ?_
    · intro rec
      simp
    · intro rec k x y hx hy hk
      simp [hk, getZ_at hx, getZ_at hy, W_nat (show k ≤ 9223372036854775806 by omega), cnd_if, leqEvent_v]
  · have hne : a ≠ b := fun e => hab (by rw [e])
    rw [show (((a.length : Nat) : Int) != ((b.length : Nat) : Int)) = true by simp; omega, cnd_tt]
    simp [hne]
inductive HdL {α : Type} (Hd : α → Int → Int → Prop) : List α → Int → Int → Prop
  | nil (k : Int) : HdL Hd [] k 0
  | cons {y : α} {ys : List α} {k n m : Int} : Hd y k n → HdL Hd ys (k + n) m → HdL Hd (y :: ys) k (n + m)
theorem mark_loop {α : Type} {F : (((Int × Int) × List α) → Option (Int × List α)) → ((Int × Int) × List α) → Option (Int × List α)} (Hd : α → Int → Int → Prop) (Q : α → Prop) (B : Int) (hB : 0 ≤ B)
    (h0 : ∀ rec k (l : List α), F rec ((k, (l.length : Int)), l) = some (k, l))
    (h1 : ∀ rec k (i : Nat) (l : List α) x, Q x → l[i]? = some x → i < l.length → i < 1048576 → 0 ≤ k → k + B ≤ 1152921504606846976 → ∃ y n, 0 ≤ n ∧ n ≤ B ∧ Hd y k n ∧ F rec ((k, (i : Int)), l) = rec ((k + n, ((i + 1 : Nat) : Int)), l.set i y)) :
    ∀ (m : Nat) (k : Int) (i : Nat) (l : List α), (∀ j x, i ≤ j → l[j]? = some x → Q x) → i ≤ l.length → l.length ≤ 1048576 → l.length - i < m → 0 ≤ k → k + B * ((l.length - i : Nat) : Int) ≤ 1152921504606846976 →
      ∃ n b, 0 ≤ n ∧ n ≤ B * ((l.length - i : Nat) : Int) ∧ b.length = l.length - i ∧ HdL Hd b k n ∧ iter F m ((k, (i : Int)), l) = some (k + n, l.take i ++ b)
  | 0, k, i, l, _, h, _, hm, _, _ => by omega
  | m + 1, k, i, l, hq, h, hl, hm, hk, hkb => by
    rw [iter_succ]
    rcases Nat.lt_or_ge i l.length with hlt | hge
    · have hx : l[i]? = some l[i] := List.getElem?_eq_getElem hlt
      have e1 : ((l.length - i : Nat) : Int) = ((l.length - (i + 1) : Nat) : Int) + 1 := by omega
      have e2 : B * ((l.length - i : Nat) : Int) = B * ((l.length - (i + 1) : Nat) : Int) + B := by rw [e1, Int.mul_add, Int.mul_one]
      have e3 : 0 ≤ B * ((l.length - (i + 1) : Nat) : Int) := Int.mul_nonneg hB (by omega)
      obtain ⟨y, n, n0, n1, hd, e⟩ := h1 (iter F m) k i l _ (hq i _ (Nat.le_refl i) hx) hx hlt (by omega) hk (by omega)
      rw [e]
      obtain ⟨n2, b, g0, g1, g2, g3, g4⟩ := mark_loop Hd Q B hB h0 h1 m (k + n) (i + 1) (l.set i y) (fun j x hj hx => hq j x (by omega) (by rwa [List.getElem?_set_ne (by omega)] at hx)) (by simpa using Nat.succ_le_of_lt hlt) (by simpa using hl) (by simp; omega) (by omega) (by simp only [List.length_set]; omega)
      simp only [List.length_set] at g1 g2
      refine ⟨n + n2, y :: b, by omega, by omega, by simp; omega, .cons hd g3, ?_⟩
      rw [g4]
      congr 2
      · omega
      · rw [List.take_add_one]
        have : (l.set i y)[i]? = some y := by simp [hlt]
        rw [this, List.take_set_of_le (Nat.le_refl i)]
        simp
    · have : i = l.length := by omega
      subst this
      rw [h0]
      exact ⟨0, [], by omega, by simp, by simp, .nil k, by simp⟩
theorem HdL.nonneg {α : Type} {Hd : α → Int → Int → Prop} (hn : ∀ y k n, Hd y k n → 0 ≤ n) {b : List α} {k n : Int} (h : HdL Hd b k n) : 0 ≤ n := by
  induction h with
  | nil => omega
  | cons h1 _ ih => have := hn _ _ _ h1; omega
theorem held_loop {α : Type} {F : ((List α × (Int × Int)) → Option Int) → (List α × (Int × Int)) → Option Int} (Hd : α → Int → Int → Prop) (l : List α) (hl : l.length ≤ 1048576) (hn : ∀ y k n, Hd y k n → 0 ≤ n)
    (h0 : ∀ rec k, F rec (l, (k, (l.length : Int))) = some k)
    (h1 : ∀ rec k (i : Nat) y n, l[i]? = some y → i < l.length → i < 1048576 → 0 ≤ k → k + n ≤ 1152921504606846976 → 0 ≤ n → Hd y k n → F rec (l, (k, (i : Int))) = rec (l, (k + n, ((i + 1 : Nat) : Int)))) :
    ∀ (m : Nat) (b : List α) (k n : Int) (i : Nat), l.drop i = b → i ≤ l.length → l.length - i < m → 0 ≤ k → k + n ≤ 1152921504606846976 → HdL Hd b k n → iter F m (l, (k, (i : Int))) = some (k + n)
  | 0, b, k, n, i, _, _, hm, _, _, _ => by omega
  | m + 1, b, k, n, i, hb, hi, hm, hk, hkn, hd => by
    rw [iter_succ]
    cases hd with
    | nil =>
      have : i = l.length := by
        have := congrArg List.length hb
        simp at this
        omega
      subst this
      rw [h0]; simp
    | @cons y ys _ n1 n2 g1 g2 =>
      have hlt : i < l.length := by
        have := congrArg List.length hb
        simp at this
        omega
      have hy : l[i]? = some y := by
        have : (l.drop i)[0]? = some y := by rw [hb]; rfl
        simpa using this
      have := hn _ _ _ g1
      have := g2.nonneg hn
      rw [h1 _ k i y n1 hy hlt (by omega) hk (by omega) (by omega) g1]
      have hb2 : l.drop (i + 1) = ys := by
        rw [List.drop_eq_getElem_cons hlt] at hb
        exact (List.cons.inj hb).2
      rw [held_loop Hd l hl hn h0 h1 m ys (k + n1) n2 (i + 1) hb2 hlt (by omega) (by omega) (by omega) g2]
      congr 1; omega
theorem mark_list {α : Type} {F : (((Int × Int) × List α) → Option (Int × List α)) → ((Int × Int) × List α) → Option (Int × List α)} (Hd : α → Int → Int → Prop) (Q : α → Prop) (B : Int) (hB : 0 ≤ B) (a : List α) (h : Sm a) (hq : ∀ x ∈ a, Q x) (k : Int) (k0 : 0 ≤ k) (k1 : k + B * 1048576 ≤ 1152921504606846976)
    (h0 : ∀ rec k (l : List α), F rec ((k, (l.length : Int)), l) = some (k, l))
    (h1 : ∀ rec k (i : Nat) (l : List α) x, Q x → l[i]? = some x → i < l.length → i < 1048576 → 0 ≤ k → k + B ≤ 1152921504606846976 → ∃ y n, 0 ≤ n ∧ n ≤ B ∧ Hd y k n ∧ F rec ((k, (i : Int)), l) = rec ((k + n, ((i + 1 : Nat) : Int)), l.set i y)) :
    ∃ n b, 0 ≤ n ∧ n ≤ B * 1048576 ∧ (Sm b ∧ HdL Hd b k n) ∧ iter F NN ((k, 0), a) = some (k + n, b) := by
  unfold Sm at h ⊢
  have hb : B * (a.length : Int) ≤ B * 1048576 := Int.mul_le_mul_of_nonneg_left (by omega) hB
  obtain ⟨n, b, g0, g1, g2, g3, g4⟩ := mark_loop Hd Q B hB h0 h1 NN k 0 a (fun j x _ hx => hq x (List.mem_of_getElem? hx)) (by omega) h (NN_big (by omega)) k0 (by simp only [Nat.sub_zero]; omega)
  simp only [Nat.sub_zero] at g1 g2
  exact ⟨n, b, g0, by omega, ⟨by omega, g3⟩, by simpa using g4⟩
theorem held_list {α : Type} {F : ((List α × (Int × Int)) → Option Int) → (List α × (Int × Int)) → Option Int} (Hd : α → Int → Int → Prop) (hn : ∀ y k n, Hd y k n → 0 ≤ n) (b : List α) (k n : Int) (k0 : 0 ≤ k) (k1 : k + n ≤ 1152921504606846976) (hd : Sm b ∧ HdL Hd b k n)
    (h0 : ∀ rec k, F rec (b, (k, (b.length : Int))) = some k)
    (h1 : ∀ rec k (i : Nat) y n, b[i]? = some y → i < b.length → i < 1048576 → 0 ≤ k → k + n ≤ 1152921504606846976 → 0 ≤ n → Hd y k n → F rec (b, (k, (i : Int))) = rec (b, (k + n, ((i + 1 : Nat) : Int)))) :
    iter F NN (b, (k, 0)) = some (k + n) :=
  held_loop Hd b hd.1 hn h0 h1 NN b k n 0 rfl (by omega) (by have := hd.1; unfold Sm at this; exact NN_big (by omega)) k0 k1 hd.2
theorem cnd_no {β : Type} {p : Prop} [Decidable p] (h : ¬ p) (x y : Option β) : cnd (decide p) x y = y := by
  unfold cnd; simp [h]
theorem getN_set {α β : Type} {l : List α} {i : Nat} (h : i < l.length) (y : α) (K : α → Option β) : getN (l.set i y) i K = K y := getN_at (by simp [h]) K
theorem getZ_set {α β : Type} {l : List α} {i : Nat} (h : i < l.length) (y : α) (K : α → Option β) : getZ (l.set i y) (i : Int) K = K y := getZ_at (by simp [h]) K
def HdPathSE (y : Path) (k n : Int) : Prop := y = (⟨k, k + 1, k + 1 + 1, k + 1 + 1 + 1⟩ : Path) ∧ k + n = k + 1 + 1 + 1 + 1
theorem HdPathSE_nn (y : Path) (k n : Int) (h : HdPathSE y k n) : 0 ≤ n := by
  unfold HdPathSE at h
  omega
abbrev HdPathS (b : (List Path)) (k n : Int) : Prop := Sm b ∧ HdL HdPathSE b k n
theorem lmarkPathS_m (a : (List Path)) (h : Sm a) (k : Int) (k0 : 0 ≤ k) (k1 : k + 4 * 1048576 ≤ 1152921504606846976) : ∃ n b, 0 ≤ n ∧ n ≤ 4 * 1048576 ∧ HdPathS b k n ∧ S_lmarkPathS a k = some (k + n, b) := by
  unfold S_lmarkPathS
  simp only [rC_v, rT_ss, rT_so, rT_oo, rT_uu, rws_path]
  refine mark_list (F := _) HdPathSE (fun _ => True) 4 (by omega) a h (fun _ _ => trivial) k k0 k1 ?_ ?_
  · intro rec k l
    simp
  · intro rec k i l x hq hx hi hi2 hk hkb
    refine ⟨(⟨k, k + 1, k + 1 + 1, k + 1 + 1 + 1⟩ : Path), 1 + 1 + 1 + 1, by omega, by omega, ⟨rfl, by omega⟩, ?_⟩
    rw [show k + (1 + 1 + 1 + 1) = k + 1 + 1 + 1 + 1 by omega]
    simp (disch := omega) [len_path, getN_at hx, hi, W_nat (show i ≤ 9223372036854775806 by omega), getN_set hi, List.length_set, List.set_set, W_id]
def HdIntSE (y : Int) (k n : Int) : Prop := y = k ∧ k + n = k + 1
theorem HdIntSE_nn (y : Int) (k n : Int) (h : HdIntSE y k n) : 0 ≤ n := by
  unfold HdIntSE at h
  omega
abbrev HdIntS (b : (List Int)) (k n : Int) : Prop := Sm b ∧ HdL HdIntSE b k n
theorem lmarkIntS_m (a : (List Int)) (h : Sm a) (k : Int) (k0 : 0 ≤ k) (k1 : k + 1 * 1048576 ≤ 1152921504606846976) : ∃ n b, 0 ≤ n ∧ n ≤ 1 * 1048576 ∧ HdIntS b k n ∧ S_lmarkIntS a k = some (k + n, b) := by
  unfold S_lmarkIntS
  simp only [rC_v, rT_ss, rT_so, rT_oo, rT_uu, rws_i]
  refine mark_list (F := _) HdIntSE (fun _ => True) 1 (by omega) a h (fun _ _ => trivial) k k0 k1 ?_ ?_
  · intro rec k l
    simp
  · intro rec k i l x hq hx hi hi2 hk hkb
    refine ⟨k, 1, by omega, by omega, ⟨rfl, by omega⟩, ?_⟩
    rw [show k + (1) = k + 1 by omega]
    simp (disch := omega) [len_i, getN_at hx, hi, W_nat (show i ≤ 9223372036854775806 by omega), getN_set hi, List.length_set, List.set_set, W_id]
def HdControl (y : Control) (k n : Int) : Prop := ∃ m0 m1 : Int, 0 ≤ m0 ∧ HdIntS y.stage (k) m0 ∧ 0 ≤ m1 ∧ HdIntS y.next (k + m0) m1 ∧ k + n = k + m0 + m1
theorem lmarkControl_m (a : Control) (h : SmControl a) (k : Int) (k0 : 0 ≤ k) (k1 : k + 2097152 ≤ 1152921504606846976) : ∃ n b, 0 ≤ n ∧ n ≤ 2097152 ∧ HdControl b k n ∧ S_lmarkControl a k = some (k + n, b) := by
  obtain ⟨h0, h1⟩ := h
  obtain ⟨n0, b0, c0, d0, f0, e0⟩ := lmarkIntS_m a.stage h0 (k) (by omega) (by omega)
  obtain ⟨n1, b1, c1, d1, f1, e1⟩ := lmarkIntS_m a.next h1 (k + n0) (by omega) (by omega)
  refine ⟨n0 + n1, (⟨b0, a.since, b1, a.left⟩ : Control), by omega, by omega, ⟨n0, n1, c0, f0, c1, f1, by omega⟩, ?_⟩
  rw [show k + (n0 + n1) = k + n0 + n1 by omega]
  unfold S_lmarkControl
  simp [e0, e1]
def HdWantSE (y : Want) (k n : Int) : Prop := y = (⟨k, k + 1⟩ : Want) ∧ k + n = k + 1 + 1
theorem HdWantSE_nn (y : Want) (k n : Int) (h : HdWantSE y k n) : 0 ≤ n := by
  unfold HdWantSE at h
  omega
abbrev HdWantS (b : (List Want)) (k n : Int) : Prop := Sm b ∧ HdL HdWantSE b k n
theorem lmarkWantS_m (a : (List Want)) (h : Sm a) (k : Int) (k0 : 0 ≤ k) (k1 : k + 2 * 1048576 ≤ 1152921504606846976) : ∃ n b, 0 ≤ n ∧ n ≤ 2 * 1048576 ∧ HdWantS b k n ∧ S_lmarkWantS a k = some (k + n, b) := by
  unfold S_lmarkWantS
  simp only [rC_v, rT_ss, rT_so, rT_oo, rT_uu, rws_want]
  refine mark_list (F := _) HdWantSE (fun _ => True) 2 (by omega) a h (fun _ _ => trivial) k k0 k1 ?_ ?_
  · intro rec k l
    simp
  · intro rec k i l x hq hx hi hi2 hk hkb
    refine ⟨(⟨k, k + 1⟩ : Want), 1 + 1, by omega, by omega, ⟨rfl, by omega⟩, ?_⟩
    rw [show k + (1 + 1) = k + 1 + 1 by omega]
    simp (disch := omega) [len_want, getN_at hx, hi, W_nat (show i ≤ 9223372036854775806 by omega), getN_set hi, List.length_set, List.set_set, W_id]
def HdLampSE (y : Lamp) (k n : Int) : Prop := y = (⟨k, k + 1, (Int.tmod (k + 1 + 1) 3 == 0)⟩ : Lamp) ∧ k + n = k + 1 + 1 + 1
theorem HdLampSE_nn (y : Lamp) (k n : Int) (h : HdLampSE y k n) : 0 ≤ n := by
  unfold HdLampSE at h
  omega
abbrev HdLampS (b : (List Lamp)) (k n : Int) : Prop := Sm b ∧ HdL HdLampSE b k n
theorem lmarkLampS_m (a : (List Lamp)) (h : Sm a) (k : Int) (k0 : 0 ≤ k) (k1 : k + 3 * 1048576 ≤ 1152921504606846976) : ∃ n b, 0 ≤ n ∧ n ≤ 3 * 1048576 ∧ HdLampS b k n ∧ S_lmarkLampS a k = some (k + n, b) := by
  unfold S_lmarkLampS
  simp only [rC_v, rT_ss, rT_so, rT_oo, rT_uu, rws_lamp]
  refine mark_list (F := _) HdLampSE (fun _ => True) 3 (by omega) a h (fun _ _ => trivial) k k0 k1 ?_ ?_
  · intro rec k l
    simp
  · intro rec k i l x hq hx hi hi2 hk hkb
    refine ⟨(⟨k, k + 1, (Int.tmod (k + 1 + 1) 3 == 0)⟩ : Lamp), 1 + 1 + 1, by omega, by omega, ⟨rfl, by omega⟩, ?_⟩
    rw [show k + (1 + 1 + 1) = k + 1 + 1 + 1 by omega]
    simp (disch := omega) [len_lamp, getN_at hx, hi, W_nat (show i ≤ 9223372036854775806 by omega), getN_set hi, List.length_set, List.set_set, W_id]
def HdEntrySE (y : Note) (k n : Int) : Prop := ∃ m0 : Int, y.second = k ∧ 0 ≤ m0 ∧ HdIntS y.lights (k + 1) m0 ∧ y.sig = k + 1 + m0 ∧ k + n = k + 1 + m0 + 1
theorem HdEntrySE_nn (y : Note) (k n : Int) (h : HdEntrySE y k n) : 0 ≤ n := by
  unfold HdEntrySE at h
  obtain ⟨m0, h⟩ := h
  omega
abbrev HdEntryS (b : (List Note)) (k n : Int) : Prop := Sm b ∧ HdL HdEntrySE b k n
theorem lmarkEntryS_m (a : (List Note)) (h : (Sm a ∧ ∀ y ∈ a, SmNote y)) (k : Int) (k0 : 0 ≤ k) (k1 : k + 1048578 * 1048576 ≤ 1152921504606846976) : ∃ n b, 0 ≤ n ∧ n ≤ 1048578 * 1048576 ∧ HdEntryS b k n ∧ S_lmarkEntryS a k = some (k + n, b) := by
  unfold S_lmarkEntryS
  simp only [rC_v, rT_ss, rT_so, rT_oo, rT_uu, rws_note_uu]
  refine mark_list (F := _) HdEntrySE (fun x => Sm x.lights) 1048578 (by omega) a h.1 h.2 k k0 k1 ?_ ?_
  · intro rec k l
    simp
  · intro rec k i l x hq hx hi hi2 hk hkb
    obtain ⟨n0, b0, c0, d0, f0, e0⟩ := lmarkIntS_m x.lights hq (k + 1) (by omega) (by omega)
    refine ⟨(⟨k, b0, k + 1 + n0⟩ : Note), 1 + n0 + 1, by omega, by omega, ⟨n0, rfl, c0, f0, rfl, by omega⟩, ?_⟩
    rw [show k + (1 + n0 + 1) = k + 1 + n0 + 1 by omega]
    simp (disch := omega) [e0, len_note, getN_at hx, hi, W_nat (show i ≤ 9223372036854775806 by omega), getN_set hi, List.length_set, List.set_set, W_id]
def HdTown (y : Town) (k n : Int) : Prop := ∃ m0 m1 m2 m3 m4 : Int, 0 ≤ m0 ∧ HdPathS y.paths (k) m0 ∧ 0 ≤ m1 ∧ HdControl y.control (k + m0) m1 ∧ 0 ≤ m2 ∧ HdWantS y.wants (k + m0 + m1) m2 ∧ 0 ≤ m3 ∧ HdLampS y.lamps (k + m0 + m1 + m2) m3 ∧ 0 ≤ m4 ∧ HdEntryS y.record (k + m0 + m1 + m2 + m3) m4 ∧ k + n = k + m0 + m1 + m2 + m3 + m4
theorem lmarkTown_m (a : Town) (h : SmTown a) (k : Int) (k0 : 0 ≤ k) (k1 : k + 1099525259264 ≤ 1152921504606846976) : ∃ n b, 0 ≤ n ∧ n ≤ 1099525259264 ∧ HdTown b k n ∧ S_lmarkTown a k = some (k + n, b) := by
  obtain ⟨h0, h1, h2, h3, h4⟩ := h
  obtain ⟨n0, b0, c0, d0, f0, e0⟩ := lmarkPathS_m a.paths h0 (k) (by omega) (by omega)
  obtain ⟨n1, b1, c1, d1, f1, e1⟩ := lmarkControl_m a.control h1 (k + n0) (by omega) (by omega)
  obtain ⟨n2, b2, c2, d2, f2, e2⟩ := lmarkWantS_m a.wants h2 (k + n0 + n1) (by omega) (by omega)
  obtain ⟨n3, b3, c3, d3, f3, e3⟩ := lmarkLampS_m a.lamps h3 (k + n0 + n1 + n2) (by omega) (by omega)
  obtain ⟨n4, b4, c4, d4, f4, e4⟩ := lmarkEntryS_m a.record h4 (k + n0 + n1 + n2 + n3) (by omega) (by omega)
  refine ⟨n0 + n1 + n2 + n3 + n4, (⟨b0, b1, b2, a.prio, b3, a.power, b4, a.books, a.now⟩ : Town), by omega, by omega, ⟨n0, n1, n2, n3, n4, c0, f0, c1, f1, c2, f2, c3, f3, c4, f4, by omega⟩, ?_⟩
  rw [show k + (n0 + n1 + n2 + n3 + n4) = k + n0 + n1 + n2 + n3 + n4 by omega]
  unfold S_lmarkTown
  simp [e0, e1, e2, e3, e4]
theorem lheldPathS_h (b : (List Path)) (k n : Int) (k0 : 0 ≤ k) (k1 : k + n ≤ 1152921504606846976) (h : HdPathS b k n) : S_lheldPathS b k = some (k + n) := by
  unfold S_lheldPathS
  simp only [rC_v, rT_ss, rT_so, rT_oo, rT_uu, rws_path]
  refine held_list (F := _) HdPathSE HdPathSE_nn b k n k0 k1 h ?_ ?_
  · intro rec k
    simp
  · intro rec k i y n hy hi hi2 hk hkb hn hd
    obtain ⟨e1, e2⟩ := hd
    rw [e2]
    simp (disch := omega) [len_path, getZ_at hy, hi, W_nat (show i ≤ 9223372036854775806 by omega), W_id, cnd_no, e1]
theorem lheldIntS_h (b : (List Int)) (k n : Int) (k0 : 0 ≤ k) (k1 : k + n ≤ 1152921504606846976) (h : HdIntS b k n) : S_lheldIntS b k = some (k + n) := by
  unfold S_lheldIntS
  simp only [rC_v, rT_ss, rT_so, rT_oo, rT_uu, rws_i]
  refine held_list (F := _) HdIntSE HdIntSE_nn b k n k0 k1 h ?_ ?_
  · intro rec k
    simp
  · intro rec k i y n hy hi hi2 hk hkb hn hd
    obtain ⟨e1, e2⟩ := hd
    rw [e2]
    simp (disch := omega) [len_i, getZ_at hy, hi, W_nat (show i ≤ 9223372036854775806 by omega), W_id, cnd_no, e1]
theorem lheldControl_h (b : Control) (k n : Int) (k0 : 0 ≤ k) (k1 : k + n ≤ 1152921504606846976) (h : HdControl b k n) : S_lheldControl b k = some (k + n) := by
  unfold S_lheldControl
  obtain ⟨m0, m1, c0, f0, c1, f1, hn2⟩ := h
  rw [hn2]
  have e0 := lheldIntS_h b.stage (k) m0 (by omega) (by omega) f0
  have e1 := lheldIntS_h b.next (k + m0) m1 (by omega) (by omega) f1
  simp (disch := omega) [e0, e1, cnd_no]
theorem lheldWantS_h (b : (List Want)) (k n : Int) (k0 : 0 ≤ k) (k1 : k + n ≤ 1152921504606846976) (h : HdWantS b k n) : S_lheldWantS b k = some (k + n) := by
  unfold S_lheldWantS
  simp only [rC_v, rT_ss, rT_so, rT_oo, rT_uu, rws_want]
  refine held_list (F := _) HdWantSE HdWantSE_nn b k n k0 k1 h ?_ ?_
  · intro rec k
    simp
  · intro rec k i y n hy hi hi2 hk hkb hn hd
    obtain ⟨e1, e2⟩ := hd
    rw [e2]
    simp (disch := omega) [len_want, getZ_at hy, hi, W_nat (show i ≤ 9223372036854775806 by omega), W_id, cnd_no, e1]
theorem lheldLampS_h (b : (List Lamp)) (k n : Int) (k0 : 0 ≤ k) (k1 : k + n ≤ 1152921504606846976) (h : HdLampS b k n) : S_lheldLampS b k = some (k + n) := by
  unfold S_lheldLampS
  simp only [rC_v, rT_ss, rT_so, rT_oo, rT_uu, rws_lamp]
  refine held_list (F := _) HdLampSE HdLampSE_nn b k n k0 k1 h ?_ ?_
  · intro rec k
    simp
  · intro rec k i y n hy hi hi2 hk hkb hn hd
    obtain ⟨e1, e2⟩ := hd
    rw [e2]
    simp (disch := omega) [len_lamp, getZ_at hy, hi, W_nat (show i ≤ 9223372036854775806 by omega), W_id, cnd_no, e1]
theorem lheldEntryS_h (b : (List Note)) (k n : Int) (k0 : 0 ≤ k) (k1 : k + n ≤ 1152921504606846976) (h : HdEntryS b k n) : S_lheldEntryS b k = some (k + n) := by
  unfold S_lheldEntryS
  simp only [rC_v, rT_ss, rT_so, rT_oo, rT_uu, rws_note_ss]
  refine held_list (F := _) HdEntrySE HdEntrySE_nn b k n k0 k1 h ?_ ?_
  · intro rec k
    simp
  · intro rec k i y n hy hi hi2 hk hkb hn hd
    obtain ⟨m0, g0, cm0, fm0, g1, hn2⟩ := hd
    rw [hn2]
    have em0 := lheldIntS_h y.lights (k + 1) m0 (by omega) (by omega) fm0
    simp (disch := omega) [em0, len_note, getZ_at hy, hi, W_nat (show i ≤ 9223372036854775806 by omega), W_id, cnd_no, g0, g1]
theorem lheldTown_h (b : Town) (k n : Int) (k0 : 0 ≤ k) (k1 : k + n ≤ 1152921504606846976) (h : HdTown b k n) : S_lheldTown b k = some (k + n) := by
  unfold S_lheldTown
  obtain ⟨m0, m1, m2, m3, m4, c0, f0, c1, f1, c2, f2, c3, f3, c4, f4, hn2⟩ := h
  rw [hn2]
  have e0 := lheldPathS_h b.paths (k) m0 (by omega) (by omega) f0
  have e1 := lheldControl_h b.control (k + m0) m1 (by omega) (by omega) f1
  have e2 := lheldWantS_h b.wants (k + m0 + m1) m2 (by omega) (by omega) f2
  have e3 := lheldLampS_h b.lamps (k + m0 + m1 + m2) m3 (by omega) (by omega) f3
  have e4 := lheldEntryS_h b.record (k + m0 + m1 + m2 + m3) m4 (by omega) (by omega) f4
  simp (disch := omega) [e0, e1, e2, e3, e4, cnd_no]
def HdEventSE (y : Evt) (k n : Int) : Prop := y = (⟨k, k + 1, k + 1 + 1, (Int.tmod (k + 1 + 1 + 1) 3 == 0)⟩ : Evt) ∧ k + n = k + 1 + 1 + 1 + 1
theorem HdEventSE_nn (y : Evt) (k n : Int) (h : HdEventSE y k n) : 0 ≤ n := by
  unfold HdEventSE at h
  omega
abbrev HdEventS (b : (List Evt)) (k n : Int) : Prop := Sm b ∧ HdL HdEventSE b k n
theorem lmarkEventS_m (a : (List Evt)) (h : Sm a) (k : Int) (k0 : 0 ≤ k) (k1 : k + 4 * 1048576 ≤ 1152921504606846976) : ∃ n b, 0 ≤ n ∧ n ≤ 4 * 1048576 ∧ HdEventS b k n ∧ S_lmarkEventS a k = some (k + n, b) := by
  unfold S_lmarkEventS
  simp only [rC_v, rT_ss, rT_so, rT_oo, rT_uu, rws_evt]
  refine mark_list (F := _) HdEventSE (fun _ => True) 4 (by omega) a h (fun _ _ => trivial) k k0 k1 ?_ ?_
  · intro rec k l
    simp
  · intro rec k i l x hq hx hi hi2 hk hkb
    refine ⟨(⟨k, k + 1, k + 1 + 1, (Int.tmod (k + 1 + 1 + 1) 3 == 0)⟩ : Evt), 1 + 1 + 1 + 1, by omega, by omega, ⟨rfl, by omega⟩, ?_⟩
    rw [show k + (1 + 1 + 1 + 1) = k + 1 + 1 + 1 + 1 by omega]
    simp (disch := omega) [len_evt, getN_at hx, hi, W_nat (show i ≤ 9223372036854775806 by omega), getN_set hi, List.length_set, List.set_set, W_id]
end Go.Sh
