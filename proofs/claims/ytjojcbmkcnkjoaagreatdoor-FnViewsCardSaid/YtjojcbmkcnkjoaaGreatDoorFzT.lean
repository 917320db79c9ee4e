/- Values that are nobody else's: lent for a call; made so. -/
import Derived.Test.YtjojcbmkcnkjoaaGreatDoorFzS
set_option linter.all false
namespace Go.Fx
def PA (w : World) : Nat → Nat → Prop := fun b _ => b < w.heap.size
theorem bors_eq (cs : List AV) : bors cs = cs.map AV.bor := by
  induction cs with
  | nil => rfl
  | cons a as ih => simp [bors, ih]
theorem borss_eq (cs : List (List AV)) : borss cs = cs.map bors := by
  induction cs with
  | nil => rfl
  | cons a as ih => simp [borss, ih]
theorem toUs_eq (cs : List AV) : toUs cs = cs.map AV.toU := by
  induction cs with
  | nil => rfl
  | cons a as ih => simp [toUs, ih]
theorem toUss_eq (cs : List (List AV)) : toUss cs = cs.map toUs := by
  induction cs with
  | nil => rfl
  | cons a as ih => simp [toUss, ih]
theorem bor_one (a : AV) : a.bor.one = a.one := by
  cases a <;> try rfl
  rename_i o k xs; cases o <;> rfl
theorem toU_one (a : AV) : a.toU.one = a.one := by
  cases a <;> try rfl
  rename_i o k xs; cases o <;> rfl
theorem bors_flatten (xs : List (List AV)) : (borss xs).flatten = bors xs.flatten := by
  induction xs with
  | nil => rfl
  | cons x xs ih => rw [borss, List.flatten_cons, List.flatten_cons, ih, bors_eq, bors_eq, bors_eq, List.map_append]
theorem toUs_flatten (xs : List (List AV)) : (toUss xs).flatten = toUs xs.flatten := by
  induction xs with
  | nil => rfl
  | cons x xs ih => rw [toUss, List.flatten_cons, List.flatten_cons, ih, toUs_eq, toUs_eq, toUs_eq, List.map_append]
theorem okUs_append (a b : List AV) : okUs (a ++ b) = (okUs a && okUs b) := by
  induction a with
  | nil => simp [okUs]
  | cons x xs ih => simp [okUs, ih, Bool.and_assoc]
theorem okUs_flatten (xs : List (List AV)) : okUs xs.flatten = okUss xs := by
  induction xs with
  | nil => rfl
  | cons x xs ih => rw [List.flatten_cons, okUs_append, ih, okUss]
theorem borss_rows {k : Nat} {xs : List (List AV)} (h : ∀ x ∈ xs, x.length = k) : ∀ x ∈ borss xs, x.length = k := by
  intro x hx
  rw [borss_eq] at hx
  obtain ⟨y, hy, rfl⟩ := List.mem_map.1 hx
  rw [bors_eq, List.length_map]
  exact h y hy
theorem toUss_rows {k : Nat} {xs : List (List AV)} (h : ∀ x ∈ xs, x.length = k) : ∀ x ∈ toUss xs, x.length = k := by
  intro x hx
  rw [toUss_eq] at hx
  obtain ⟨y, hy, rfl⟩ := List.mem_map.1 hx
  rw [toUs_eq, List.length_map]
  exact h y hy
theorem borss_length (xs : List (List AV)) : (borss xs).length = xs.length := by rw [borss_eq, List.length_map]
theorem toUss_length (xs : List (List AV)) : (toUss xs).length = xs.length := by rw [toUss_eq, List.length_map]
section
variable {w : World} {Pr Pr2 : Nat → Nat → Prop} {γ γ2 : List Nat} {base base' : Nat}
theorem Rep.toPA {a : AV} {v : Value} (hp : ∀ b i, b < w.heap.size → Pr b i → b < w.heap.size) (h : Rep w Pr γ base a v []) : Rep w (PA w) γ base' a v [] :=
  (h.drop' (base' := base')).mono (Ext.refl (fun _ => False) Pr w) (fun b i hb _ => hb) (fun _ _ h => h) (Nat.le_refl _) (by simp) (by simp)
mutual
theorem Rep.lent {a : AV} {v : Value} {F : List Nat} : Rep w Pr γ base a v F → Rep w (PA w) γ base' a.bor v []
  | .lit h => .lit h
  | .agg h => .agg (Reps.lent h)
  | .tup h => .tup (RepL.lent h)
  | .fn h => (Rep.fn h).clr.toPA (fun _ _ h _ => h)
  | .rp h1 h2 h3 h4 h => (Rep.rp h1 h2 h3 h4 h).clr.toPA (fun _ _ h _ => h)
  | .gp h => .gp h
  | .opq => .opq
  | .nilq h => .nilq h
  | .shr h2 h3 h4 h5 h h6 => (Rep.shr h2 h3 h4 h5 h h6).toPA (fun _ _ h _ => h)
  | .nil => (Rep.nil (w := w) (Pr := Pr) (γ := γ) (base := base)).clr.toPA (fun _ _ h _ => h)
  | .own h1 h2 h3 h4 h5 h6 h7 h h8 h9 => (Rep.own h1 h2 h3 h4 h5 h6 h7 h h8 h9).clr.toPA (fun _ _ h _ => h)
  | .unil => .shr (vs := []) rfl (Nat.le_refl _) (Nat.zero_le _) (by simp [borss]) .nil (.inl rfl)
  | .unq (b := b) (n := n) (k := k) (cur := cur) (xs := xs) h1 h2 h0 h3 h4 h5 h6 h7 h h8 => by
    have hb := (Reps.lent h).clr
    rw [← bors_flatten] at hb
    refine .shr ((borss_length _).trans h5) h3 h4 (borss_rows h6) hb (.inr ⟨⟨b, 0, none⟩, rfl, rfl, fun j v hj => ?_, fun j hj => lt_of_heap h1, lt_of_heap h1⟩)
    rw [← h7, List.getElem?_take] at hj
    split at hj
    · rw [Nat.zero_add, cell_of_heap h1]; simpa using hj
    · cases hj
theorem Reps.lent {cs : List AV} {vs : List Value} {F : List Nat} : Reps w Pr γ base cs vs F → Reps w (PA w) γ base' (bors cs) vs []
  | .nil => .nil
  | .cons h1 h h' => .cons (F := []) (G := []) (by rw [bor_one]; exact h1) (Rep.lent h) (Reps.lent h')
theorem RepL.lent {cs : List AV} {vs : List Value} {F : List Nat} : RepL w Pr γ base cs vs F → RepL w (PA w) γ base' (bors cs) vs []
  | .nil => .nil
  | .cons h h' => .cons (F := []) (G := []) (Rep.lent h) (RepL.lent h')
end
mutual
theorem Rep.mine {a : AV} {v : Value} {F : List Nat} : Rep w Pr γ base a v F → a.okU = true → (∀ b ∈ F, ∀ i, ¬ Pr2 b i) → Rep w Pr2 γ2 base' a.toU v F
  | .lit h, _, _ => .lit h
  | .agg h, ok, hF => .agg (Reps.mine h ok hF)
  | .tup h, ok, hF => .tup (RepL.mine h ok hF)
  | .fn h, ok, _ => by cases ok
  | .rp h1 h2 h3 h4 h, ok, _ => by cases ok
  | .gp h, ok, _ => by cases ok
  | .opq, ok, _ => by cases ok
  | .nilq h, ok, _ => by cases ok
  | .shr h2 h3 h4 h5 h h6, ok, _ => by cases ok
  | .nil, _, _ => .unil
  | .unil, ok, _ => by cases ok
  | .unq h1 h2 h0 h3 h4 h5 h6 h7 h h8, ok, _ => by cases ok
  | .own (xs := xs) h1 h2 h3 h4 h5 h6 h7 h h8 h9, ok, hF => by
    have ok' : okUs xs.flatten = true := by rw [okUs_flatten]; exact ok
    have hb := Reps.mine h ok' (fun b hb => hF b (List.mem_cons_of_mem _ hb))
    rw [← toUs_flatten] at hb
    exact .unq h1 h2 h9 h3 h4 ((toUss_length _).trans h5) (toUss_rows h6) h7 hb (hF _ (List.mem_cons_self ..))
theorem Reps.mine {cs : List AV} {vs : List Value} {F : List Nat} : Reps w Pr γ base cs vs F → okUs cs = true → (∀ b ∈ F, ∀ i, ¬ Pr2 b i) → Reps w Pr2 γ2 base' (toUs cs) vs F
  | .nil, _, _ => .nil
  | .cons h1 h h', ok, hF => by
    simp only [okUs, Bool.and_eq_true] at ok
    exact .cons (by rw [toU_one]; exact h1) (Rep.mine h ok.1 (fun b hb => hF b (List.mem_append_left _ hb))) (Reps.mine h' ok.2 (fun b hb => hF b (List.mem_append_right _ hb)))
theorem RepL.mine {cs : List AV} {vs : List Value} {F : List Nat} : RepL w Pr γ base cs vs F → okUs cs = true → (∀ b ∈ F, ∀ i, ¬ Pr2 b i) → RepL w Pr2 γ2 base' (toUs cs) vs F
  | .nil, _, _ => .nil
  | .cons h h', ok, hF => by
    simp only [okUs, Bool.and_eq_true] at ok
    exact .cons (Rep.mine h ok.1 (fun b hb => hF b (List.mem_append_left _ hb))) (RepL.mine h' ok.2 (fun b hb => hF b (List.mem_append_right _ hb)))
end
end
end Go.Fx
