/- FnAudited: draws and the law. -/
import Derived.Test.YtkbhcieejpbjpaaGreatQA
set_option linter.all false
namespace Go.Sh
open Go.Fx
theorem longest_fold : ∀ (l : List Path) (n : Int), 0 ≤ n ∧ n ≤ 5 → 0 ≤ l.foldl (fun n p => if n < clearOf p then clearOf p else n) n ∧ l.foldl (fun n p => if n < clearOf p then clearOf p else n) n ≤ 5
  | [], n, h => h
  | p :: l, n, h => by
    have := clearOf_r p
    refine longest_fold l _ ?_
    show 0 ≤ (if n < clearOf p then clearOf p else n) ∧ (if n < clearOf p then clearOf p else n) ≤ 5
    split <;> omega
theorem longestClear_r (l : List Path) : 0 ≤ longestClear l ∧ longestClear l ≤ 5 := by
  unfold longestClear
  split
  · exact longest_fold l 0 (by omega)
  · omega
theorem waitBound_pos {l : List Path} (h : l.length ≤ 7) : waitBound l > 0 := by
  have h5 := longestClear_r l
  unfold waitBound
  rw [W_id (n := 60 + longestClear l) (by omega) (by omega), W_id (n := 60 + longestClear l + 20) (by omega) (by omega), W_id (n := 60 + longestClear l + 20 + 1) (by omega) (by omega), W_id (n := (l.length : Int) + 1) (by omega) (by omega)]
  have h1 : (1 : Int) * 81 ≤ ((l.length : Int) + 1) * (60 + longestClear l + 20 + 1) := Int.mul_le_mul (by omega) (by omega) (by omega) (by omega)
  have h2 : ((l.length : Int) + 1) * (60 + longestClear l + 20 + 1) ≤ 8 * 86 := Int.mul_le_mul (by omega) (by omega) (by omega) (by omega)
  rw [W_id (by omega) (by omega)]
  omega
theorem want0 (l : List Want) (v : Int) (p : Want) {β : Type} (K : List Want → Option β) : rws wantR (frzss (List.set (l.map wantR.enc) 0 [I p.path, I v])) K = K (l.set 0 ⟨p.path, v⟩) := by
  have e : List.set (l.map wantR.enc) 0 [I p.path, I v] = (l.set 0 (⟨p.path, v⟩ : Want)).map wantR.enc := by
    cases l <;> rfl
  rw [e, frzss_want, rws_want]
theorem sl36Draw_g {g : L1Cur} (h : CurOk g) : Gives (S_sl36Draw g) SmTown := by
  unfold S_sl36Draw
  simp only [rC_v, rT_ss, rT_so, rT_oo, rT_uu, rws_y, rws_evt, eta_L1Cur]
  obtain ⟨t, g1, e1, ht, hg1⟩ := sl35Start_g h
  rw [e1, bnd_some]
  obtain ⟨l, g2, e2, ⟨r, hl, hr⟩, hg2⟩ := sl35List_g hg1 (m := 9) (by omega)
  rw [e2, bnd_some]
  have hsl : Sm l := by unfold Sm; rw [hl]; simp; omega
  simp only [sRunEvents_v t l ht hsl, bnd_some]
  have hs := runEvents_sm (l := l) ht
  generalize runEvents t l = u at hs
  simp only [AV.okU, okUs, okUss_path, okUss_i, okUss_want, okUss_lamp, okUss_note, Bool.and_self, toUss_path, toUss_i, toUss_want, toUss_lamp, toUss_note, rws_path, rws_i, rws_want, rws_lamp, rws_note_uu]
  rw [ifA_pos trivial]
  obtain ⟨k, g3, e3, hk, hg3⟩ := sl1Below_g hg2 (n := 9) (by omega)
  rw [e3, bnd_some]
  simp only [frzss_path, frzss_i, frzss_want, frzss_lamp, frzss_note, rws_path, rws_i, rws_want, rws_lamp, rws_note_oo, rws_y, eta_L1Cur, cnd_if]
  split
  · exact ⟨_, _, rfl, hs, hg3⟩
  split
  · exact ⟨_, _, rfl, hs, hg3⟩
  split
  · split
    · rename_i hlen
      simp only [borss_want, len_want, decide_eq_true_eq] at hlen
      have hlt : 0 < u.wants.length := by omega
      simp only [borss_want, geti_want, getn_want, Int.toNat_zero]
      have hz : ∀ (K : Want → Option (Town × L1Cur)), getZ u.wants 0 K = K u.wants[0] := getZ_at (k := 0) (List.getElem?_eq_getElem hlt)
      have hn : ∀ (K : Want → Option (Town × L1Cur)), getN u.wants 0 K = K u.wants[0] := getN_at (List.getElem?_eq_getElem hlt)
      rw [hz, hn, want0]
      exact ⟨_, _, rfl, ⟨hs.1, hs.2.1, by have := hs.2.2.1; unfold Sm at this ⊢; simpa using this, hs.2.2.2⟩, hg3⟩
    · exact ⟨_, _, rfl, hs, hg3⟩
  · exact ⟨_, _, rfl, hs, hg3⟩
theorem sDrawFaultOf_g (code : List Int) (h : code.length ≤ 1048576) : ∃ t, S_sDrawFaultOf code = some t ∧ SmTown t := by
  unfold S_sDrawFaultOf S_sDrawAreLightsSafe
  simp only [rC_v, rT_ss, rT_so, rT_oo, rT_uu, rws_y, eta_L1Cur]
  obtain ⟨g, e, hg⟩ := sl1New_g code h
  rw [e, bnd_some]
  obtain ⟨t, g1, e1, ht, _⟩ := sl36Draw_g hg
  rw [e1]
  exact ⟨_, rfl, ht⟩
theorem sDrawWaitBound_g (code : List Int) (h : code.length ≤ 1048576) : ∃ l, S_sDrawWaitBound code = some l ∧ l.length ≤ 7 := by
  unfold S_sDrawWaitBound S_sDrawArePaths
  simp only [rws_y, rws_path, eta_L1Cur]
  obtain ⟨g, e, hg⟩ := sl1New_g code h
  rw [e, bnd_some]
  obtain ⟨l, g1, e1, hl, _⟩ := sl5Any_g hg
  rw [e1]
  exact ⟨_, rfl, hl⟩
def faultOf (t : Town) : ByteArray := if !isTown t then ⟨[116, 111, 119, 110].toArray⟩ else if !recordTrue t then ⟨[114, 101, 99, 111, 114, 100].toArray⟩ else if !waitsBounded t then ⟨[119, 97, 105, 116].toArray⟩ else ⟨[].toArray⟩
theorem iFaultOf_v (t : Town) (h : SmTown t) : S_iFaultOf t = some (faultOf t) := by
  unfold S_iFaultOf faultOf
  simp only [rC_v, rT_ss, rT_so, rT_oo, rT_uu, iIsTown_v t h, iIsRecordTrue_v t h, iAreWaitsBounded_v t h, bnd_some]
  cases ht : isTown t with
  | false => rfl
  | true =>
    rw [is_safe h ht, bnd_some]
    cases recordTrue t with
    | false => rfl
    | true => cases waitsBounded t <;> rfl
theorem lFnAudited_v (code : List Int) (h : code.length ≤ maxLen ∧ ∀ y ∈ code, 0 ≤ y ∧ y ≤ 255) : S_lFnAudited code = some true := by
  unfold S_lFnAudited
  simp only [rws_y, lbig_v, bnd_some]
  by_cases hb : (code.length : Int) > 1048576
  · rw [show decide ((code.length : Int) > 1048576) = true by simpa using hb, cnd_tt]
  rw [show decide ((code.length : Int) > 1048576) = false by simpa using hb, cnd_ff]
  obtain ⟨t, e1, ht⟩ := sDrawFaultOf_g code (by omega)
  obtain ⟨l, e2, hl⟩ := sDrawWaitBound_g code (by omega)
  have hsl : Sm l := by unfold Sm; omega
  have hp : decide (waitBound l > 0) = true := decide_eq_true (waitBound_pos hl)
  simp only [e1, e2, bnd_some, rC_v, rT_ss, rT_so, rT_oo, rT_uu, rws_path, iIsTown_v t ht, iFaultOf_v t ht, iIsRecordTrue_v t ht, iAreWaitsBounded_v t ht, iWaitBound_v l hsl, hp, beq_ba]
  unfold faultOf
  cases hT : isTown t with
  | false => rfl
  | true =>
    simp only [is_safe ht hT, bnd_some]
    cases recordTrue t with
    | false => rfl
    | true => cases waitsBounded t <;> rfl
end Go.Sh
