/- Steps: what they change. -/
import Derived.Test.YtkbhcieejpbjpaaGreatQE
set_option linter.all false
namespace Go.Sh
open Go.Fx
theorem stepped_t {t o : Town} {ok : Bool} (h : (stepped t o ok).2 = true) : ok = true ∧ isTown t = true ∧ isTown o = true ∧ (stepped t o ok).1 = o := by
  unfold stepped at h ⊢
  split at h
  · rename_i c
    simp only [Bool.and_eq_true] at c
    exact ⟨c.1, c.2.1, c.2.2, by rw [if_pos (by simp [c])]⟩
  · cases h
theorem stepped_f {t o : Town} {ok : Bool} (h : (stepped t o ok).2 = false) : (stepped t o ok).1 = t := by
  unfold stepped at h ⊢
  split at h
  · cases h
  · rename_i c; rw [if_neg c]
theorem stepCall_f {t : Town} {p : Int} (h : (stepCall t p).2 = false) : (stepCall t p).1 = t := stepped_f h
theorem stepBus_f {t : Town} {p : Int} (h : (stepBus t p).2 = false) : (stepBus t p).1 = t := stepped_f h
theorem stepLamp_f {t : Town} {p c : Int} {b : Bool} (h : (stepLamp t p c b).2 = false) : (stepLamp t p c b).1 = t := by
  unfold stepLamp at h ⊢
  split at h
  · rename_i ht; rw [if_pos ht]; exact stepped_f h
  · rename_i ht; rw [if_neg ht]
theorem stepPower_f {t : Town} {b : Bool} (h : (stepPower t b).2 = false) : (stepPower t b).1 = t := by
  unfold stepPower at h ⊢
  split at h
  · rename_i ht; rw [if_pos ht]; exact stepped_f h
  · rename_i ht; rw [if_neg ht]
theorem stepHelp_f {t : Town} {p : Int} (h : (stepHelp t p).2 = false) : (stepHelp t p).1 = t := by
  unfold stepHelp at h ⊢
  split at h
  · rename_i ht; rw [if_pos ht]; exact stepped_f h
  · rename_i ht; rw [if_neg ht]
theorem secs_f {t : Town} : ∀ {k : Nat} {u : Town}, (secs t k u).2 = false → (secs t k u).1 = t
  | 0, u, h => by cases h
  | k + 1, u, h => by
    unfold secs at h ⊢
    split at h
    · rename_i c; rw [if_pos c]; exact secs_f h
    · rename_i c; rw [if_neg c]
theorem stepSeconds_f {t : Town} {n : Int} (h : (stepSeconds t n).2 = false) : (stepSeconds t n).1 = t := by
  unfold stepSeconds at h ⊢
  split at h
  · rename_i c; rw [if_pos c]; exact secs_f h
  · rename_i c; rw [if_neg c]
end Go.Sh
