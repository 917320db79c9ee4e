/- Wants that wait. -/
import Derived.Test.YtjgfhonfmjfabaaGreatI5
set_option linter.all false
namespace Go.Sh
open Go.Fx
theorem goW_mem {l : List Path} : ∀ {w : List Want} {pv : Option Int}, goW l pv w = true → ∀ x ∈ w, wantOk l x = true
  | [], _, _, x, hx => by cases hx
  | y :: w, pv, h, x, hx => by
    simp only [goW, Bool.and_eq_true] at h
    rcases List.mem_cons.1 hx with rfl | hx
    · exact h.1.1
    · exact goW_mem h.2 x hx
theorem wants_mem {l : List Path} {w : List Want} (h : areWants l w = true) {x : Want} (hx : x ∈ w) : ¬ findPath l x.path < 0 ∧ 0 ≤ x.wait ∧ x.wait ≤ 100000 := by
  unfold areWants at h
  rw [Bool.and_eq_true] at h
  have := goW_mem h.2 x hx
  unfold wantOk inR at this
  simpa using this
theorem getZ_light {β : Type} {l : List Path} {y : Control} {id : Int} (hc : isControl l y = true) (h : ¬ findPath l id < 0) (K : Int → Option β) : getZ (lightsOf l y) (findPath l id) K = K (lightAt y id) := by
  obtain ⟨i, x, h1, h2, h3⟩ := findPath_lt h
  have : (lightsOf l y)[i]? = some (lightAt y x.id) := by
    unfold lightsOf
    rw [if_pos hc, List.getElem?_map, h1]
    rfl
  rw [h2, getZ_at this, h3]
theorem lights_len {l : List Path} {y : Control} (hc : isControl l y = true) : (lightsOf l y).length = l.length := by
  unfold lightsOf
  rw [if_pos hc, List.length_map]
def bump (n : Int) : Int := if n < 100000 then n + 1 else 100000
def waited (y : Control) (w : List Want) : List Want := w.filterMap fun x => if lightAt y x.path = 1 then none else some ⟨x.path, bump x.wait⟩
theorem appe_want (l : List Want) (a b : Int) {β : Type} (K : List Want → Option β) : rws wantR (l.map wantR.enc ++ [[I a, I b]]) K = K (l ++ [(⟨a, b⟩ : Want)]) :=
  (rws_app _ _ _ K).trans ((rws_want l _).trans (row_want _ _ fun l' => K (l ++ l')))
theorem sl16Wants_v (l : List Path) (y : Control) (w : List Want) (h : Sm l) (hy : SmControl y) (hw : Sm w) (hc : isControl l y = true) (ha : areWants l w = true) : S_sl16Wants l y w = some (waited y w) := by
  unfold Sm at hw
  unfold S_sl16Wants waited
  simp only [rws_path, rws_i, eta_Control, sLightsOf_v l y h hy, bnd_some, rws_want, len_want, geti_want, geti_i]
  refine filterMap_loop w _ (by omega) (fun k acc => (l, w, acc, lightsOf l y, (k : Int))) some rfl ?_ ?_
  · intro rec acc ha; simp
  · intro rec k x acc hx hk hl
    obtain ⟨h1, h2, h3⟩ := wants_mem ha (mem_at hx)
    simp [hk, getZ_at hx, sFindPath_v _ _ h, getZ_light hc h1, W_n1 (show k ≤ 9223372036854775806 by omega), sMin_v, show W (x.wait + 1) = x.wait + 1 from W_id (by omega) (by omega)]
    by_cases c : lightAt y x.path = 1
    · simp [c]
    · have hb : (if x.wait + 1 < 100000 then x.wait + 1 else 100000) = bump x.wait := by unfold bump; split <;> split <;> omega
      simp [c, show (lightAt y x.path != 1) = true from bne_iff_ne.2 c, hb, appe_want, show (acc.length + 1) * 16 ≤ 140737488355328 by omega, show acc.length ≤ 1152921504606846975 by omega]
theorem iwaited_v (l : List Path) (y : Control) (w : List Want) (h : Sm l) (hy : SmControl y) (hw : Sm w) (hc : isControl l y = true) (ha : areWants l w = true) : S_iwaited l y w = some (waited y w) := by
  unfold Sm at hw
  unfold S_iwaited waited
  simp only [rws_path, rws_i, eta_Control, iLightsOf_v l y h hy, bnd_some, rws_want, len_want, geti_want, geti_i, len_i, lights_len hc]
  refine filterMap_loop w _ (by omega) (fun k acc => (l, acc, lightsOf l y, w, (w.length : Int), (k : Int))) some rfl ?_ ?_
  · intro rec acc ha; simp
  · intro rec k x acc hx hk hl
    obtain ⟨h1, h2, h3⟩ := wants_mem ha (mem_at hx)
    obtain ⟨i, p, i1, i2, _⟩ := findPath_lt h1
    have i3 : i < l.length := (List.getElem?_eq_some_iff.1 i1).1
    simp [hk, getZ_at hx, iFindPath_v _ _ h, getZ_light hc h1, W_n1 (show k ≤ 9223372036854775806 by omega), lights_len hc, h1, show ¬ ((l.length : Int) ≤ findPath l x.path) by omega, show W (x.wait + 1) = x.wait + 1 from W_id (by omega) (by omega)]
    by_cases c : lightAt y x.path = 1
    · simp [c]
    · have hb : (if 100000 < x.wait + 1 then 100000 else x.wait + 1) = bump x.wait := by unfold bump; split <;> split <;> omega
      simp [c, show (lightAt y x.path != 1) = true from bne_iff_ne.2 c, hb, appe_want, show (acc.length + 1) * 16 ≤ 140737488355328 by omega, show acc.length ≤ 1152921504606846975 by omega]
theorem waited_sm {y : Control} {w : List Want} (h : Sm w) : Sm (waited y w) := Nat.le_trans (List.length_filterMap_le _ _) h
def shorter (r : Prio) : Prio := if r.left ≤ 1 then ⟨0, 0⟩ else ⟨r.path, r.left - 1⟩
theorem prio_left {l : List Path} {x : Prio} (h : isPrio l x = true) : 0 ≤ x.left ∧ x.left ≤ 20 := by
  unfold isPrio inR at h
  simp only [Bool.and_eq_true, Bool.or_eq_true, decide_eq_true_eq] at h
  rcases h.2 with h | h
  · rw [h]; exact ⟨by decide, by decide⟩
  · omega
theorem ishorter_v (r : Prio) (h : 0 ≤ r.left ∧ r.left ≤ 20) : S_ishorter r = some (shorter r) := by
  unfold S_ishorter shorter
  by_cases c : r.left ≤ 1
  · simp [c]
  · simp [c]
    exact W_id (by omega) (by omega)
theorem town_parts {t : Town} (h : isTown t = true) : isControl t.paths t.control = true ∧ areWants t.paths t.wants = true ∧ isPrio t.paths t.prio = true ∧ areLamps t.paths t.lamps = true ∧ isRecord t.record = true ∧ t.record ≠ [] ∧ (0 ≤ t.books ∧ t.books ≤ 1000) ∧ (0 ≤ t.now ∧ t.now ≤ 1000000) ∧ t.record.length ≤ 60 := by
  unfold isTown inR at h
  simp only [Bool.and_eq_true, decide_eq_true_eq, Bool.not_eq_true'] at h
  have hr := h.1.1.1.1.1.1.2
  refine ⟨h.1.1.1.1.1.1.1.1.1.1, h.1.1.1.1.1.1.1.1.1.2, h.1.1.1.1.1.1.1.1.2, h.1.1.1.1.1.1.1.2, hr, fun e => ?_, h.1.2, h.2, ?_⟩
  · have := h.1.1.1.1.1.2
    rw [e] at this
    cases this
  · unfold isRecord at hr
    rw [Bool.and_eq_true, decide_eq_true_eq] at hr
    exact hr.1
end Go.Sh
