/- Events: a town stays a town, one after the other. -/
import Derived.Test.YtkbhcieejpbjpaaGreatN1E
set_option linter.all false
namespace Go.Sh
open Go.Fx
theorem stepped_town (t o : Town) (ok : Bool) : isTown (stepped t o ok).1 = isTown t := by
  cases h : (stepped t o ok).2 with
  | true => obtain ⟨_, h1, h2, h3⟩ := stepped_t h; rw [h3, h2, h1]
  | false => rw [stepped_f h]
theorem stepSecond_town (t : Town) : isTown (stepSecond t).1 = isTown t := by
  unfold stepSecond
  split
  · exact stepped_town _ _ _
  · rfl
theorem secs_town (t : Town) : ∀ (k : Nat) (u : Town), isTown u = isTown t → isTown (secs t k u).1 = isTown t
  | 0, u, h => h
  | k + 1, u, h => by
    unfold secs
    split
    · exact secs_town t k _ (by rw [stepSecond_town, h])
    · rfl
theorem apply_town (t : Town) (e : Evt) : isTown (applyEvent t e).1 = isTown t := by
  unfold applyEvent
  split
  · exact stepped_town _ _ _
  split
  · exact stepped_town _ _ _
  split
  · unfold stepLamp
    split
    · exact stepped_town _ _ _
    · rfl
  split
  · unfold stepPower
    split
    · exact stepped_town _ _ _
    · rfl
  split
  · unfold stepSeconds
    split
    · exact secs_town t _ t rfl
    · rfl
  split
  · unfold stepHelp
    split
    · exact stepped_town _ _ _
    · rfl
  · rfl
theorem run_town : ∀ (l : List Evt) (t : Town), isTown (runEvents t l) = isTown t
  | [], _ => rfl
  | e :: l, t => (run_town l (applyEvent t e).1).trans (apply_town t e)
theorem run_app (t : Town) (a b : List Evt) : runEvents t (a ++ b) = runEvents (runEvents t a) b := List.foldl_append ..
theorem run_cut (t : Town) (l : List Evt) (k : Nat) : runEvents (runEvents t (l.take k)) (l.drop k) = runEvents t l := by
  rw [← run_app, List.take_append_drop]
theorem apply_kind {t : Town} {e : Evt} (h : (applyEvent t e).2 = true) : 1 ≤ e.kind ∧ e.kind ≤ 6 := by
  unfold applyEvent at h
  repeat' split at h
  all_goals first | (cases h; done) | omega
theorem apply_same {t : Town} {e : Evt} (h : (applyEvent t e).2 = false) : (applyEvent t e).1 = t := by
  unfold applyEvent at h ⊢
  split
  · rename_i c; rw [if_pos c] at h; exact stepCall_f h
  rename_i c; rw [if_neg c] at h
  split
  · rename_i c; rw [if_pos c] at h; exact stepBus_f h
  rename_i c; rw [if_neg c] at h
  split
  · rename_i c; rw [if_pos c] at h; exact stepLamp_f h
  rename_i c; rw [if_neg c] at h
  split
  · rename_i c; rw [if_pos c] at h; exact stepPower_f h
  rename_i c; rw [if_neg c] at h
  split
  · rename_i c; rw [if_pos c] at h; exact stepSeconds_f h
  rename_i c; rw [if_neg c] at h
  split
  · rename_i c; rw [if_pos c] at h; exact stepHelp_f h
  · rfl
end Go.Sh
