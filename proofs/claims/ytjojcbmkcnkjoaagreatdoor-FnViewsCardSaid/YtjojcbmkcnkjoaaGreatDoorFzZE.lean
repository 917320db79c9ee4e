/- Functions of the library, out of the kit's shelf: strings. -/
import Derived.Test.YtjojcbmkcnkjoaaGreatDoorFzZC
import Derived.Below
import Derived.Shelf.Strings.OnBuilder
set_option linter.all false
namespace Go.Fx
open Go.RowKit Go.Proofs
section
variable {P : Program} {w w' : World} {Pr : Nat → Nat → Prop} {γ : List Nat} {base : Nat} {D : Nat → Prop}
theorem ext_below (h : Below w.heap.size w w') : Ext D Pr w w' where
  os := h.os
  tape := h.tape
  output := h.output
  size := h.size
  blk := fun b hb _ => h.block b hb
  cell := fun b _ hb _ => h.cell hb
  shp := fun b cur e hb => ⟨cur, by rw [h.block b (Array.getElem?_eq_some_iff.1 hb).1]; exact hb, rfl⟩
theorem callPost_lit {v : Value} (h : Below w.heap.size w w') (hs : scal v = true) (hpr : ∀ b i, Pr b i → b < w.heap.size) : CallPost D w Pr [] (.lit v) [] v w' :=
  ⟨fun _ => none, Pr, [], [], ext_below h, fun _ _ _ _ => Iff.rfl, fun _ _ _ h => h, .lit hs, .nil, (fun _ h => by cases h), (fun _ _ h => by cases h), rfl, (fun _ _ h => h), (fun b i hb => Nat.lt_of_lt_of_le (hpr b i hb) h.size), (fun _ _ h => by cases h), (fun _ _ h => by cases h)⟩
theorem ext_ok {ng : Nat} {G0 : Nat → Option Obj} {f : Nat} {fn : Func} {R : RR} {A : RA} {S : R.τ → Option A.τ} (hfn : P.funcs[f]? = some fn) (hname : (fn.name == "runtime.NumGoroutine") = false) (hb : fn.body.isSome = true)
    (h : ∀ x r, S x = some r → ∃ v, A.enc r = .lit v ∧ scal v = true ∧ ∀ (w : World) (Pr : Nat → Nat → Prop) (γ : List Nat) (vs : List Value) (F : List Nat), RepL w Pr γ w.heap.size (R.enc x) vs F →
      Calls P f vs.toArray w fun e w' => e = .returned v ∧ Below w.heap.size w w') : EntryOk P ng G0 f ⟨aV R, qV A, S⟩ := by
  intro x r hr w Pr γ owg vs F hargs hnd hdis hlabs hgob hglen hprl hlt hng hgl hngo
  obtain ⟨v, h1, h2, h3⟩ := h x r hr
  obtain ⟨c, hc⟩ := Option.isSome_iff_exists.1 hb
  have hγ : γ = [] := List.length_eq_zero_iff.1 hglen
  subst hγ
  refine ⟨run_callFunc hfn hname hc _ _, (h3 w Pr [] vs F hargs).mono fun e w' he => ?_⟩
  obtain ⟨rfl, hbl⟩ := he
  show CallPost _ w Pr [] (A.enc r) [] v w'
  rw [h1]
  exact callPost_lit hbl h2 hprl
theorem clrs_strs : ∀ (l : List ByteArray), clrs (l.map (rOne rS).enc).flatten = l.map Sg := by
  intro l
  induction l with
  | nil => rfl
  | cons a l ih => exact congrArg (Sg a :: ·) ih
theorem reps_strs : ∀ {l : List ByteArray} {vs : List Value} {F : List Nat}, Reps w Pr γ base (l.map Sg) vs F → vs = l.map Value.string
  | [], _, _, h => by cases h; rfl
  | s :: l, _, _, h => by
    cases h with
    | cons _ h1 h2 => cases h1; rw [reps_strs h2]; rfl
def joinB (l : List ByteArray) (sep : ByteArray) : ByteArray := ⟨(Lib.join (l.map (·.data.toList)) sep.data.toList).toArray⟩
def S_strings_Join (l : List ByteArray) (sep : ByteArray) : Option ByteArray :=
  ifA (l.length ≤ 140737488355328 ∧ (Lib.join (l.map (·.data.toList)) sep.data.toList).length ≤ 140737488355328) (some (joinB l sep))
theorem join_some {l : List ByteArray} {sep r : ByteArray} (h : S_strings_Join l sep = some r) : l.length ≤ 140737488355328 ∧ (Lib.join (l.map (·.data.toList)) sep.data.toList).length ≤ 140737488355328 ∧ r = joinB l sep := by
  unfold S_strings_Join ifA at h
  split at h
  · rename_i hc
    exact ⟨hc.1, hc.2, (Option.some.inj h).symm⟩
  · cases h
theorem join_calls {ρ : Go.Shelf.Ren} (L : Lays.n156 P ρ) (X : Builder.Extra P ρ) {l : List ByteArray} {sep : ByteArray} (h1 : l.length ≤ 140737488355328) (h2 : (Lib.join (l.map (·.data.toList)) sep.data.toList).length ≤ 140737488355328)
    {vs : List Value} {F : List Nat} (ha : RepL w Pr γ base [.slc .shr 1 (l.map (rOne rS).enc), Sg sep] vs F) : Calls P (ρ.f 156) vs.toArray w fun e w' => e = .returned (.string (joinB l sep)) ∧ Below w.heap.size w w' := by
  cases ha with
  | @cons _ v1 _ _ vs1 _ a1 a2 =>
  cases a2 with
  | @cons _ v2 _ _ vs2 _ b1 b2 =>
  cases b2
  cases b1
  cases a1 with
  | @shr _ n cap _ A us c1 c2 c3 c4 c5 c6 =>
  rw [clrs_strs] at c5
  have hus := reps_strs c5
  subst hus
  have hn : l.length = n := (List.length_map _).symm.trans c1
  subst hn
  rcases c6 with h0 | ⟨ad, rfl, hsp, hcl, hpr, hlt⟩
  · cases l with
    | cons a l => simp at h0
    | nil =>
      refine (Any.strings_Join_none L X A cap sep w).mono fun e w' he => ⟨he.1, he.2 ▸ Below.refl _ _⟩
  · obtain ⟨bk, o, sp⟩ := ad
    cases hsp
    refine Any.strings_Join L X bk o cap l sep w (fun j x hx => ?_) hlt h1 c2 h2
    exact hcl j _ (by simp [hx])
theorem strings_Join_ok {ng : Nat} {G0 : Nat → Option Obj} {ρ : Go.Shelf.Ren} {f : Nat} {fn : Func} (L : Lays.n156 P ρ) (X : Builder.Extra P ρ) (hf : ρ.f 156 = f) (hfn : P.funcs[f]? = some fn) (hname : (fn.name == "runtime.NumGoroutine") = false) (hb : fn.body.isSome = true) :
    EntryOk P ng G0 f ⟨aV (rCo (rX .shr 1 (rOne rS)) (rOne rS)), qV rS, fun x : List ByteArray × ByteArray => S_strings_Join x.1 x.2⟩ := by
  subst hf
  refine ext_ok hfn hname hb fun x r hr => ?_
  obtain ⟨h1, h2, rfl⟩ := join_some hr
  exact ⟨.string (joinB x.1 x.2), rfl, rfl, fun w Pr γ vs F ha => join_calls L X h1 h2 ha⟩
end
end Go.Fx
