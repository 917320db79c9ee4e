/- Functions of the library, out of the kit's shelf: numbers' texts. -/
import Derived.Test.YtjojcbmkcnkjoaaGreatDoorFzZE
import Derived.Shelf.Strconv.Itoa3
set_option linter.all false
namespace Go.Fx
open Go.RowKit Go.Proofs Go.Sort
section
variable {P : Program} {w w' : World} {Pr : Nat → Nat → Prop} {γ : List Nat} {base : Nat} {D : Nat → Prop}
theorem below_grow (w : World) (k : Nat) (os : Array Obj) : Below w.heap.size w (grow (w.drewN k) os) := by
  refine ⟨rfl, rfl, rfl, ?_, fun b hb => ?_⟩
  · show w.heap.size ≤ (w.heap ++ os).size
    simp
  · show (w.heap ++ os)[b]? = _
    rw [Array.getElem?_append_left hb]
theorem ext_okG {ng : Nat} {G0 : Nat → Option Obj} {f : Nat} {fn : Func} {R : RR} {A : RA} {S : R.τ → Option A.τ} (hfn : P.funcs[f]? = some fn) (hname : (fn.name == "runtime.NumGoroutine") = false) (hb : fn.body.isSome = true)
    (h : ∀ x r, S x = some r → ∃ v, A.enc r = .lit v ∧ scal v = true ∧ ∀ (w : World) (Pr : Nat → Nat → Prop) (γ : List Nat) (vs : List Value) (F : List Nat), (∀ b, b < ng → w.heap[b]? = G0 b) → RepL w Pr γ w.heap.size (R.enc x) vs F →
      Calls P f vs.toArray w fun e w' => e = .returned v ∧ Below w.heap.size w w') : EntryOk P ng G0 f ⟨aV R, qV A, S⟩ := by
  intro x r hr w Pr γ owg vs F hargs hnd hdis hlabs hgob hglen hprl hlt hng hgl hngo
  obtain ⟨v, h1, h2, h3⟩ := h x r hr
  obtain ⟨c, hc⟩ := Option.isSome_iff_exists.1 hb
  have hγ : γ = [] := List.length_eq_zero_iff.1 hglen
  subst hγ
  refine ⟨run_callFunc hfn hname hc _ _, (h3 w Pr [] vs F hgl hargs).mono fun e w' he => ?_⟩
  obtain ⟨rfl, hbl⟩ := he
  show CallPost _ w Pr [] (A.enc r) [] v w'
  rw [h1]
  exact callPost_lit hbl h2 hprl
def itoaB (n : Int) : ByteArray := ⟨(Lib.itoa n).toArray⟩
def S_strconv_Itoa (n : Int) : Option ByteArray := ifA (-9223372036854775808 ≤ n ∧ n ≤ 9223372036854775807) (some (itoaB n))
theorem itoa_some {n : Int} {r : ByteArray} (h : S_strconv_Itoa n = some r) : -9223372036854775808 ≤ n ∧ n ≤ 9223372036854775807 ∧ r = itoaB n := by
  unfold S_strconv_Itoa ifA at h
  split at h
  · rename_i hc
    exact ⟨hc.1, hc.2, (Option.some.inj h).symm⟩
  · cases h
theorem strconv_Itoa_ok {ng : Nat} {G0 : Nat → Option Obj} {ρ : Go.Shelf.Ren} {f : Nat} {fn : Func} (L : LaysM.n171 P ρ) (hf : ρ.f 171 = f) (hfn : P.funcs[f]? = some fn) (hname : (fn.name == "runtime.NumGoroutine") = false) (hb : fn.body.isSome = true)
    (htab : ∀ w : World, (∀ b, b < ng → w.heap[b]? = G0 b) → Lib.TabIs P w "internal/strconv.uint64pow10" .u64 Lib.pow10Tab) :
    EntryOk P ng G0 f ⟨aV (rOne rI), qV rS, S_strconv_Itoa⟩ := by
  subst hf
  refine ext_okG hfn hname hb fun x r hr => ?_
  obtain ⟨h1, h2, rfl⟩ := itoa_some hr
  refine ⟨.string (itoaB x), rfl, rfl, fun w Pr γ vs F hg ha => ?_⟩
  cases ha with
  | @cons _ v1 _ _ vs1 _ a1 a2 =>
  cases a2
  cases a1
  exact (Any.strconv_Itoa L x h1 h2 w (htab w hg)).mono fun e w' he => by
    obtain ⟨he, k, os, rfl⟩ := he
    exact ⟨he, below_grow w k os⟩
end
end Go.Fx
