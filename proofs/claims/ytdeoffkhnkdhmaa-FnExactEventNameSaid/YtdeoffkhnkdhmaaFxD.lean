/- Code: what the evaluator says of it, the machine does. -/
import Derived.Test.YtdeoffkhnkdhmaaFxC
import Derived.Control
namespace Go.Fx

/-! ### loops -/

theorem loopN_det {V R : Type} {F : V → Option (V ⊕ R)} : ∀ {n m : Nat} {v : V} {r r' : R}, loopN F n v = some r → loopN F m v = some r' → r = r'
  | 0, _, _, _, _, h, _ => by simp [loopN] at h
  | _ + 1, 0, _, _, _, _, h => by simp [loopN] at h
  | n + 1, m + 1, v, r, r', h, h' => by
    simp only [loopN] at h h'
    cases hF : F v with
    | none => simp [hF] at h
    | some x =>
      cases x with
      | inl v' => simp only [hF] at h h'; exact loopN_det h h'
      | inr q => simp only [hF] at h h'; exact (Option.some.inj h).symm.trans (Option.some.inj h')

theorem loopA_some {V R : Type} {F : V → Option (V ⊕ R)} {v : V} {r : R} : loopA F v = some r ↔ ∃ n, loopN F n v = some r := by
  unfold loopA
  split
  · rename_i h
    obtain ⟨n, hn⟩ := h.choose_spec
    constructor
    · intro e
      exact ⟨n, by rw [hn]; exact e⟩
    · rintro ⟨m, hm⟩
      rw [loopN_det hn hm]
  · rename_i h
    constructor
    · intro e; cases e
    · rintro ⟨n, hn⟩
      exact absurd ⟨r, n, hn⟩ h

theorem loopA_step {V R : Type} (F : V → Option (V ⊕ R)) (v : V) : loopA F v = match F v with | none => none | some (.inl v') => loopA F v' | some (.inr r) => some r := by
  apply Option.ext
  intro r
  rw [loopA_some]
  constructor
  · rintro ⟨n, hn⟩
    cases n with
    | zero => simp [loopN] at hn
    | succ n =>
      simp only [loopN] at hn
      cases hF : F v with
      | none => simp [hF] at hn
      | some x =>
        cases x with
        | inl v' => simp only [hF] at hn ⊢; exact loopA_some.2 ⟨n, hn⟩
        | inr q => simp only [hF] at hn ⊢; exact hn
  · intro h
    cases hF : F v with
    | none => simp [hF] at h
    | some x =>
      cases x with
      | inl v' =>
        simp only [hF] at h
        obtain ⟨n, hn⟩ := loopA_some.1 h
        exact ⟨n + 1, by simp only [loopN, hF]; exact hn⟩
      | inr q =>
        simp only [hF] at h
        exact ⟨1, by simp only [loopN, hF]; exact h⟩

def exitOf : Ex → Exit
  | .nrm => .normal
  | .ex i => .exit i
  | .ret => .ret

def tmOf (a : Act) : Nat → Value := fun t => a.tmps.getD t undef

/-- the machine stands where the evaluator says -/
def At (GE : Glob) (D : Nat → Prop) (Pr0 : Nat → Nat → Prop) (w0 : World) (nt : Nat) (s : St) (a : Act) (w : World) : Prop :=
  ∃ ow Pr B γ, Inv GE D Pr0 w0 s (tmOf a) w ow Pr B γ ∧ a.defers = [] ∧ nt ≤ a.tmps.size

def CodeOk (P : Program) (GE : Glob) (nt : Nat) (c : Code) (s : St) (e : Ex) (s' : St) : Prop :=
  ∀ D Pr0 w0 a w, At GE D Pr0 w0 nt s a w → c.wp P (fun x a' w' => x = exitOf e ∧ At GE D Pr0 w0 nt s' a' w') a w

theorem mapM_some_get {α β : Type} {f : α → Option β} : ∀ {l : List α} {r : List β}, l.mapM f = some r → ∀ i : Nat, l[i]?.bind f = r[i]?
  | [], r, h, i => by
    simp at h
    subst h
    simp
  | x :: l, r, h, i => by
    rw [List.mapM_cons] at h
    cases hx : f x with
    | none => simp [hx] at h
    | some y =>
      cases hl : l.mapM f with
      | none => simp [hx, hl] at h
      | some ys =>
        simp [hx, hl] at h
        subst h
        cases i with
        | zero => simpa using hx
        | succ i => simpa using mapM_some_get hl i

theorem mapM_some_length {α β : Type} {f : α → Option β} : ∀ {l : List α} {r : List β}, l.mapM f = some r → r.length = l.length
  | [], r, h => by
    simp at h
    subst h
    rfl
  | x :: l, r, h => by
    rw [List.mapM_cons] at h
    cases hx : f x with
    | none => simp [hx] at h
    | some y =>
      cases hl : l.mapM f with
      | none => simp [hx, hl] at h
      | some ys =>
        simp [hx, hl] at h
        subst h
        simp [mapM_some_length hl]

end Go.Fx
