/- All paths called: a want for each. -/
import Derived.Test.YtkbhcieejpbjpaaGreatN3
set_option linter.all false
namespace Go.Sh
open Go.Fx
theorem goW_snoc {l : List Path} {y : Want} (hy : wantOk l y = true) : ∀ {w : List Want} {pv : Option Int}, goW l pv w = true → (∀ x ∈ w, x.path < y.path) → (w = [] → later pv y.path = true) → goW l pv (w ++ [y]) = true
  | [], pv, _, _, h => by simp [goW, hy, h rfl]
  | x :: w, pv, hw, hl, _ => by
    simp only [goW, Bool.and_eq_true] at hw
    simp only [List.cons_append, goW, Bool.and_eq_true]
    refine ⟨hw.1, goW_snoc hy hw.2 (fun z hz => hl z (List.mem_cons_of_mem _ hz)) fun _ => ?_⟩
    have := hl x (List.mem_cons_self ..)
    simp [later, this]
theorem tw_all {α : Type} {p : α → Bool} : ∀ {l : List α}, (∀ x ∈ l, p x = true) → l.takeWhile p = l
  | [], _ => rfl
  | x :: l, h => by rw [List.takeWhile_cons, if_pos (h x (List.mem_cons_self ..)), tw_all fun y hy => h y (List.mem_cons_of_mem _ hy)]
theorem town_wants {t : Town} {w : List Want} (h : isTown t = true) (hw : areWants t.paths w = true) : isTown { t with wants := w } = true := by
  unfold isTown at h ⊢
  simp only [Bool.and_eq_true] at h ⊢
  simp only [hw, and_true]
  exact ⟨⟨⟨⟨⟨⟨⟨⟨⟨h.1.1.1.1.1.1.1.1.1.1, h.1.1.1.1.1.1.1.1.2⟩, h.1.1.1.1.1.1.1.2⟩, h.1.1.1.1.1.1.2⟩, h.1.1.1.1.1.2⟩, h.1.1.1.1.2⟩, h.1.1.1.2⟩, h.1.1.2⟩, h.1.2⟩, h.2⟩
theorem call_next {t : Town} {n : Int} (h : isTown t = true) (hf : ¬ findPath t.paths n < 0) (hl : ∀ x ∈ t.wants, x.path < n) : (applyEvent t ⟨1, n, 0, false⟩).1 = { t with wants := t.wants ++ [⟨n, 0⟩] } ∧ isTown { t with wants := t.wants ++ [⟨n, 0⟩] } = true := by
  have hw := (town_parts h).2.1
  have hw2 := hw
  unfold areWants at hw2
  rw [Bool.and_eq_true] at hw2
  have hok : wantOk t.paths (⟨n, 0⟩ : Want) = true := by simp [wantOk, hf, inR]
  have hnew : areWants t.paths (t.wants ++ [⟨n, 0⟩]) = true := by
    unfold areWants
    rw [hw2.1, goW_snoc hok hw2.2 hl (fun _ => rfl)]
    rfl
  have htw : t.wants.takeWhile (fun x => decide (x.path < n)) = t.wants := tw_all fun x hx => by simpa using hl x hx
  have hput : putW t.wants n t.wants.length = t.wants ++ [⟨n, 0⟩] := by unfold putW; simp
  have hadd : addWant t.paths t.wants n = (t.wants ++ [⟨n, 0⟩], true) := by
    unfold addWant
    rw [htw, hput, if_pos hnew]
  have htown := town_wants h hnew
  refine ⟨?_, htown⟩
  show (applyEvent t ⟨1, n, 0, false⟩).1 = _
  unfold applyEvent
  rw [if_pos rfl]
  unfold stepCall stepped
  rw [hadd]
  simp only [h, htown, Bool.and_self, if_true]
theorem find_path {l : List Path} {p : Path} (h : p ∈ l) : ¬ findPath l p.id < 0 := by
  unfold findPath
  split
  · omega
  · rename_i hn
    have := List.findIdx?_eq_none_iff.1 hn p h
    simp at this
theorem goP_lt : ∀ {l : List Path} {o : Option Int}, goP o l = true → ∀ i, o = some i → ∀ p ∈ l, i < p.id
  | [], _, _, _, _, p, hp => by cases hp
  | q :: l, o, h, i, ho, p, hp => by
    subst ho
    simp only [goP, Bool.and_eq_true, decide_eq_true_eq] at h
    rcases List.mem_cons.1 hp with rfl | hp
    · exact h.1.2
    · have := goP_lt h.2 q.id rfl p hp
      omega
theorem goP_tail {q : Path} {l : List Path} {o : Option Int} (h : goP o (q :: l) = true) : goP (some q.id) l = true := by
  cases o <;> simp only [goP, Bool.and_eq_true] at h <;> exact h.2
theorem calls_len : ∀ (r : List Path) (t : Town) (o : Option Int), goP o r = true → isTown t = true → (∀ p ∈ r, p ∈ t.paths) → (∀ x ∈ t.wants, ∀ p ∈ r, x.path < p.id) → (runEvents t (callAll r)).wants.length = t.wants.length + r.length
  | [], t, _, _, _, _, _ => rfl
  | q :: r, t, o, hg, ht, hp, hl => by
    obtain ⟨e, ht2⟩ := call_next (n := q.id) ht (find_path (hp q (List.mem_cons_self ..))) (fun x hx => hl x hx q (List.mem_cons_self ..))
    have ih := calls_len r { t with wants := t.wants ++ [⟨q.id, 0⟩] } (some q.id) (goP_tail hg) ht2 (fun p h => hp p (List.mem_cons_of_mem _ h)) (fun x hx p h => by
      rcases List.mem_append.1 hx with hx | hx
      · exact hl x hx p (List.mem_cons_of_mem _ h)
      · rw [List.mem_singleton.1 hx]
        exact goP_lt (goP_tail hg) q.id rfl p h)
    show (runEvents (applyEvent t ⟨1, q.id, 0, false⟩).1 (callAll r)).wants.length = _
    rw [e, ih]
    simp
    omega
theorem called_all (p : List Path) (h : (newTown p).2 = true) : (runEvents (newTown p).1 (callAll p)).wants.length = p.length := by
  unfold newTown at h ⊢
  split
  · rename_i c; rw [c] at h; cases h
  · rename_i s r c
    rw [c] at h
    simp only at h
    split at h
    · rename_i ht
      rw [if_pos ht]
      have hw := (town_parts ht).2.1
      unfold areWants at hw
      rw [Bool.and_eq_true] at hw
      have hg : goP none p = true := by
        have := hw.1
        unfold arePaths at this
        rw [Bool.and_eq_true] at this
        exact this.2
      have := calls_len p (town1 p s) none hg ht (fun _ h => h) (fun x hx => by cases hx)
      rw [this]
      show 0 + p.length = _
      omega
    · cases h
end Go.Sh
