/- Steps: what they change. -/
import Derived.Test.YtiidjcgodncncaaGreatQS
set_option linter.all false
namespace Go.Sh
open Go.Fx
theorem stepped_t {t o : Town} {ok : Bool} (h : (stepped t o ok).2 = true) : ok = true ∧ isTown t = true ∧ isTown o = true ∧ (stepped t o ok).1 = o := by
  unfold stepped at h ⊢
  split at h
  · rename_i c
    simp only [Bool.and_eq_true] at c
    exact ⟨c.1, c.2.1, c.2.2, by rw [if_pos (by simp [c])]⟩
  · cases h
theorem stepped_f {t o : Town} {ok : Bool} (h : (stepped t o ok).2 = false) : (stepped t o ok).1 = t := by
  unfold stepped at h ⊢
  split at h
  · cases h
  · rename_i c; rw [if_neg c]
theorem note_keeps (t : Town) : (note t).wants = t.wants ∧ (note t).prio = t.prio ∧ (note t).lamps = t.lamps ∧ (note t).power = t.power ∧ (note t).now = t.now := by
  unfold note
  split <;> exact ⟨rfl, rfl, rfl, rfl, rfl⟩
theorem town_now {t : Town} (h : isTown t = true) : 0 ≤ t.now ∧ t.now ≤ 1000000 := (by have := town_parts h; omega)
theorem stepCall_t {t : Town} {p : Int} (h : (stepCall t p).2 = true) : isTown (stepCall t p).1 = true ∧ (stepCall t p).1.wants.length = t.wants.length + 1 := by
  obtain ⟨h1, _, h3, h4⟩ := stepped_t h
  have e : (stepCall t p).1 = _ := h4
  rw [e]
  refine ⟨h3, ?_⟩
  show (addWant t.paths t.wants p).1.length = _
  unfold addWant at h1 ⊢
  split at h1
  · rename_i c
    rw [if_pos c]
    exact putW_len _ _ (takeWhile_le _ _)
  · cases h1
theorem stepCall_f {t : Town} {p : Int} (h : (stepCall t p).2 = false) : (stepCall t p).1 = t := stepped_f h
theorem stepBus_t {t : Town} {p : Int} (h : (stepBus t p).2 = true) : isTown (stepBus t p).1 = true ∧ (stepBus t p).1.prio.path = p := by
  obtain ⟨h1, _, h3, h4⟩ := stepped_t h
  have e : (stepBus t p).1 = _ := h4
  rw [e]
  refine ⟨h3, ?_⟩
  show (askPrio t.paths t.prio p).1.path = p
  unfold askPrio at h1 ⊢
  split at h1
  · rename_i c; rw [if_pos c]
  · cases h1
theorem stepBus_f {t : Town} {p : Int} (h : (stepBus t p).2 = false) : (stepBus t p).1 = t := stepped_f h
theorem put_brk (p c : Int) (b : Bool) (x : Lamp) : brk (putLamp p c b x) p c = (hit p c x && b) := by
  unfold brk putLamp hit
  cases x with
  | mk q d e =>
    cases h1 : (q == p) <;> cases h2 : (d == c) <;> cases b <;> simp [h1, h2]
theorem broken_lamps (l : List Lamp) (p c : Int) (b : Bool) : broken (lampsOf l p c b) p c = b := by
  have e : ∀ l : List Lamp, ((l.map (putLamp p c b)).any fun a => brk a p c) = (l.any (hit p c) && b) := by
    intro l
    induction l with
    | nil => simp
    | cons x l ih => rw [List.map_cons, List.any_cons, ih, put_brk, List.any_cons]; cases hit p c x <;> cases l.any (hit p c) <;> cases b <;> rfl
  unfold lampsOf broken
  split
  · rename_i h; rw [e, h, Bool.true_and]
  · rename_i h
    rw [List.any_append, e]
    have : l.any (hit p c) = false := by simpa using h
    rw [this]
    simp [brk]
theorem stepLamp_t {t : Town} {p c : Int} {b : Bool} (h : (stepLamp t p c b).2 = true) : isTown (stepLamp t p c b).1 = true ∧ broken (stepLamp t p c b).1.lamps p c = b := by
  unfold stepLamp at h ⊢
  split at h
  · rename_i ht
    rw [if_pos ht]
    obtain ⟨_, _, h3, h4⟩ := stepped_t h
    rw [h4]
    refine ⟨h3, ?_⟩
    rw [(note_keeps _).2.2.1]
    exact broken_lamps _ _ _ _
  · cases h
theorem stepLamp_f {t : Town} {p c : Int} {b : Bool} (h : (stepLamp t p c b).2 = false) : (stepLamp t p c b).1 = t := by
  unfold stepLamp at h ⊢
  split at h
  · rename_i ht; rw [if_pos ht]; exact stepped_f h
  · rename_i ht; rw [if_neg ht]
theorem stepPower_t {t : Town} {b : Bool} (h : (stepPower t b).2 = true) : isTown (stepPower t b).1 = true ∧ (stepPower t b).1.power = b := by
  unfold stepPower at h ⊢
  split at h
  · rename_i ht
    rw [if_pos ht]
    obtain ⟨_, _, h3, h4⟩ := stepped_t h
    rw [h4]
    exact ⟨h3, (note_keeps _).2.2.2.1⟩
  · cases h
theorem stepPower_f {t : Town} {b : Bool} (h : (stepPower t b).2 = false) : (stepPower t b).1 = t := by
  unfold stepPower at h ⊢
  split at h
  · rename_i ht; rw [if_pos ht]; exact stepped_f h
  · rename_i ht; rw [if_neg ht]
theorem stepSecond_t {t : Town} (h : (stepSecond t).2 = true) : isTown t = true ∧ isTown (stepSecond t).1 = true ∧ (stepSecond t).1.now = t.now + 1 := by
  unfold stepSecond at h ⊢
  split at h
  · rename_i ht
    rw [if_pos ht]
    obtain ⟨_, _, h3, h4⟩ := stepped_t h
    rw [h4]
    refine ⟨ht, h3, ?_⟩
    rw [(note_keeps _).2.2.2.2]
    unfold seconded
    split <;> rfl
  · cases h
theorem stepSecond_f {t : Town} (h : (stepSecond t).2 = false) : (stepSecond t).1 = t := by
  unfold stepSecond at h ⊢
  split at h
  · rename_i ht; rw [if_pos ht]; exact stepped_f h
  · rename_i ht; rw [if_neg ht]
theorem stepHelp_t {t : Town} {p : Int} (h : (stepHelp t p).2 = true) : isTown t = true ∧ isTown (stepHelp t p).1 = true ∧ (stepHelp t p).1.now = t.now + 1 := by
  unfold stepHelp at h ⊢
  split at h
  · rename_i ht
    rw [if_pos ht]
    obtain ⟨_, h2, h3, h4⟩ := stepped_t h
    rw [h4]
    refine ⟨h2, h3, ?_⟩
    rw [(note_keeps _).2.2.2.2]
    unfold helped
    split <;> rfl
  · cases h
theorem stepHelp_f {t : Town} {p : Int} (h : (stepHelp t p).2 = false) : (stepHelp t p).1 = t := by
  unfold stepHelp at h ⊢
  split at h
  · rename_i ht; rw [if_pos ht]; exact stepped_f h
  · rename_i ht; rw [if_neg ht]
theorem secs_t {t : Town} : ∀ {k : Nat} {u : Town}, (secs t k u).2 = true → (secs t k u).1.now = u.now + (k : Int) ∧ (isTown u = true → isTown (secs t k u).1 = true) ∧ (1 ≤ k → isTown u = true)
  | 0, u, h => ⟨by unfold secs; simp, fun hu => hu, by omega⟩
  | k + 1, u, h => by
    unfold secs at h ⊢
    split at h
    · rename_i c
      rw [if_pos c]
      obtain ⟨a1, a2, a3⟩ := stepSecond_t c
      obtain ⟨b1, b2, _⟩ := secs_t h
      exact ⟨by rw [b1, a3]; omega, fun _ => b2 a2, fun _ => a1⟩
    · cases h
theorem secs_f {t : Town} : ∀ {k : Nat} {u : Town}, (secs t k u).2 = false → (secs t k u).1 = t
  | 0, u, h => by cases h
  | k + 1, u, h => by
    unfold secs at h ⊢
    split at h
    · rename_i c; rw [if_pos c]; exact secs_f h
    · rename_i c; rw [if_neg c]
theorem stepSeconds_t {t : Town} {n : Int} (h : (stepSeconds t n).2 = true) : isTown t = true ∧ isTown (stepSeconds t n).1 = true ∧ (stepSeconds t n).1.now = t.now + n ∧ 1 ≤ n ∧ n ≤ 100 := by
  unfold stepSeconds at h ⊢
  split at h
  · rename_i c
    rw [if_pos c]
    have hn : 1 ≤ n ∧ n ≤ 100 := by unfold inR at c; simpa using c
    obtain ⟨a1, a2, a3⟩ := secs_t h
    have ht := a3 (by omega)
    exact ⟨ht, a2 ht, by rw [a1]; omega, hn⟩
  · cases h
theorem stepSeconds_f {t : Town} {n : Int} (h : (stepSeconds t n).2 = false) : (stepSeconds t n).1 = t := by
  unfold stepSeconds at h ⊢
  split at h
  · rename_i c; rw [if_pos c]; exact secs_f h
  · rename_i c; rw [if_neg c]
end Go.Sh
