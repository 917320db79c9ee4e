/- Stages, searched depth first. -/
import Derived.Test.YtkbhcieejpbjpaaGreatQW
set_option linter.all false
namespace Go.Sh
open Go.Fx
def fullStage (l : List Path) (ids : List Int) : Bool := (l.all fun p => has ids p.id || !together l (putI ids p.id)) && together l ids
theorem putI_smL {a : List Int} {n : Int} (h : a.length ≤ 1000) : Sm (putI a n) := by have := putI_len a n; unfold Sm; omega
theorem sIsFullStage_v (l : List Path) (ids : List Int) (h : Sm l) (hi : ids.length ≤ 1000) : S_sIsFullStage l ids = some (fullStage l ids) := by
  have hl := h
  unfold Sm at hl
  have hs : Sm ids := by unfold Sm; omega
  unfold S_sIsFullStage
  simp only [rws_path, rws_i, len_path]
  refine (all_loop l (fun p => has ids p.id || !together l (putI ids p.id)) (by omega) (fun k => (l, ids, (k : Int))) (some (together l ids)) (some false) rfl ?_ ?_).trans ?_
  · intro rec
    simp [sIsTogether_v l ids h hs]
  · intro rec k p hx hk
    simp only [show decide ((k : Int) < (l.length : Int)) = true by simpa using hk, cnd_tt, geti_path, getZ_at hx, sl6Has_v _ _ hs, bnd_some, rws_path, rws_i, sl6Put_v ids p.id hs, sIsTogether_v l _ h (putI_smL hi), W_n1 (show k ≤ 9223372036854775806 by omega), Int.natCast_succ]
    cases has ids p.id with
    | true => simp
    | false =>
      cases together l (putI ids p.id) <;> simp
  · unfold fullStage
    cases (l.all fun p => has ids p.id || !together l (putI ids p.id)) <;> simp
def search (l : List Path) : List Path → List Int → List (List Int) → List (List Int)
  | [], ids, out => if ids ≠ [] ∧ out.length < 40 ∧ fullStage l ids = true then out ++ [ids] else out
  | p :: r, ids, out => search l r ids (if together l (ids ++ [p.id]) = true then search l r (ids ++ [p.id]) out else out)
theorem search_len (l : List Path) : ∀ (r : List Path) (ids : List Int) (out : List (List Int)), out.length ≤ 40 → (search l r ids out).length ≤ 40
  | [], ids, out, h => by
    unfold search
    split
    · rename_i c; simp; omega
    · exact h
  | p :: r, ids, out, h => by
    unfold search
    refine search_len l r ids _ ?_
    split
    · exact search_len l r _ out h
    · exact h
theorem search_mem (l : List Path) : ∀ (r : List Path) (ids : List Int) (out : List (List Int)), ∀ s ∈ search l r ids out, s ∈ out ∨ (s.length ≤ ids.length + r.length ∧ fullStage l s = true ∧ s ≠ [])
  | [], ids, out, s, h => by
    unfold search at h
    split at h
    · rename_i c
      rcases List.mem_append.1 h with h | h
      · exact .inl h
      · rw [List.mem_singleton.1 h]; exact .inr ⟨by simp, c.2.2, c.1⟩
    · exact .inl h
  | p :: r, ids, out, s, h => by
    unfold search at h
    rcases search_mem l r ids _ s h with h | h
    · split at h
      · rcases search_mem l r _ out s h with h | h
        · exact .inl h
        · refine .inr ⟨?_, h.2⟩
          have := h.1
          simp at this ⊢
          omega
      · exact .inl h
    · refine .inr ⟨?_, h.2⟩
      have := h.1
      simp
      omega
theorem search_v (l : List Path) (hl : l.length ≤ 12) : ∀ (m k : Nat) (ids : List Int) (out : List (List Int)), l.length - k < m → k ≤ l.length → ids.length ≤ k → out.length ≤ 40 → S_sl6Search_n m l (k : Int) ids out = some (search l (l.drop k) ids out)
  | 0, k, ids, out, h, _, _, _ => by omega
  | m + 1, k, ids, out, h, hk, hi, ho => by
    have h' : Sm l := by unfold Sm; omega
    show S_sl6Search_F (S_sl6Search_n m) l (k : Int) ids out = _
    unfold S_sl6Search_F
    simp only [rws_path, rws_i, rws_il_oo, len_path, len_i, len_il]
    by_cases c : k = l.length
    · subst c
      rw [show (((l.length : Nat) : Int) == ((l.length : Nat) : Int)) = true by simp, cnd_tt, List.drop_length]
      unfold search
      by_cases c1 : ids = []
      · subst c1
        simp
      · have hp : 0 < ids.length := List.length_pos_iff.2 c1
        rw [show decide (((ids.length : Nat) : Int) > 0) = true from decide_eq_true (by omega), cnd_tt]
        by_cases c2 : out.length < 40
        · rw [show decide (((out.length : Nat) : Int) < 40) = true from decide_eq_true (by omega), cnd_tt, sIsFullStage_v l ids h' (by omega), bnd_some]
          cases hf : fullStage l ids with
          | true =>
            rw [cnd_tt, ifA_pos (by simp; omega), ifA_pos (by simp; omega), if_pos ⟨c1, c2, rfl⟩]
            have := appe_ilo (o := .own) (p := .own) (q := .own) rfl rfl out ids (fun l => some l)
            first
            | exact this
            | simpa using this
          | false => rw [cnd_ff, if_neg (fun h => by simp at h)]
        · rw [show decide (((out.length : Nat) : Int) < 40) = false from decide_eq_false (by omega), cnd_ff, if_neg (fun h => c2 h.2.1)]
    · have hlt : k < l.length := by omega
      have hx := List.getElem?_eq_getElem hlt
      rw [show (((k : Nat) : Int) == ((l.length : Nat) : Int)) = false by simp; omega, cnd_ff, ifA_pos (by simp; omega)]
      rw [List.drop_eq_getElem_cons hlt]
      generalize l[k] = p at hx
      have hs1 : Sm (ids ++ [p.id]) := by unfold Sm; simp; omega
      simp only [geti_path, getZ_at hx]
      rw [ifA_pos (by simp; omega)]
      have hW : W ((k : Int) + 1) = ((k + 1 : Nat) : Int) := by rw [W_n1 (by omega)]; omega
      simp only [List.nil_append, clrs_i, rws_app_i', hW]
      unfold search
      rw [sIsTogether_v l _ h' hs1, bnd_some]
      cases ht : together l (ids ++ [p.id]) with
      | true =>
        rw [cnd_tt, search_v l hl m (k + 1) (ids ++ [p.id]) out (by omega) (by omega) (by simp; omega) ho, bnd_some]
        simp only [rws_il_oo]
        rw [search_v l hl m (k + 1) ids _ (by omega) (by omega) (by omega) (search_len l _ _ _ ho), bnd_some]
        simp only [rws_il_oo, if_true]
      | false =>
        rw [cnd_ff, search_v l hl m (k + 1) ids out (by omega) (by omega) (by omega) ho, bnd_some]
        simp [rws_il_oo]
def stagesOf (l : List Path) : List (List Int) := if arePaths l = true then search l l [] [] else []
theorem sStagesOf_v (l : List Path) (h : Sm l) : S_sStagesOf l = some (stagesOf l) := by
  unfold S_sStagesOf stagesOf
  simp only [rws_path, sArePaths_v l h, bnd_some]
  cases ha : arePaths l with
  | false => rfl
  | true =>
    have hs := search_v l (are_len ha) 64 0 [] [] (by have := are_len ha; omega) (by omega) (by simp) (by simp)
    simp only [List.drop_zero] at hs
    simp only [Bool.not_true, cnd_ff, if_true]
    rw [show S_sl6Search l 0 [] [] = S_sl6Search_n 64 l ((0 : Nat) : Int) [] [] from rfl, hs, bnd_some]
    simp only [rws_il_oo]
theorem stagesOf_sm (l : List Path) : (stagesOf l).length ≤ 40 ∧ ∀ s ∈ stagesOf l, s.length ≤ 12 := by
  unfold stagesOf
  split
  · rename_i h
    refine ⟨search_len l l [] [] (by simp), fun s hs => ?_⟩
    rcases search_mem l l [] [] s hs with h1 | h1
    · cases h1
    · have := are_len h
      have := h1.1
      simp at this
      omega
  · exact ⟨by simp, fun s hs => (by cases hs)⟩
end Go.Sh
