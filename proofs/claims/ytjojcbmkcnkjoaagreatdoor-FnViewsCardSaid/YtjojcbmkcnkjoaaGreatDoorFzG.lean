/- Operations that only compute. -/
import Derived.Test.YtjojcbmkcnkjoaaGreatDoorFzF
import Derived.Laws.StructEq
set_option linter.all false
namespace Go.Fx
section
variable {P : Program} {GE : Glob} {nt : Nat} {s : St} {w : World} {Pr : Nat → Nat → Prop} {γ : List Nat} {base : Nat}
theorem rep_int {k : IntKind} {n : Int} {v : Value} {F : List Nat} (h : Rep w Pr γ base (.lit (.int k n)) v F) : v = .int k n := by cases h; rfl
theorem rep_bool {b : Bool} {v : Value} {F : List Nat} (h : Rep w Pr γ base (.lit (.bool b)) v F) : v = .bool b := by cases h; rfl
theorem rep_str {b : ByteArray} {v : Value} {F : List Nat} (h : Rep w Pr γ base (.lit (.string b)) v F) : v = .string b := by cases h; rfl
theorem rep_lit {u v : Value} {F : List Nat} (h : Rep w Pr γ base (.lit u) v F) : v = u ∧ scal u = true ∧ F = [] := by cases h; exact ⟨rfl, by assumption, rfl⟩
theorem run_binI {op : BinOp} {k : IntKind} {x y : Int} {c : AV} (t : TypeId) (h : binI op k x y = some c) :
    ∃ u, (binOp op t (.int k x) (.int k y)).run P w = .ok u w ∧ c = .lit u ∧ scal u = true := by
  cases op <;> simp only [binI] at h <;> first
    | (cases h; exact ⟨_, by simp [binOp, Op.intArith, Op.intBits, Op.intCmp], rfl, rfl⟩)
    | (split at h
       · cases h
       · rename_i hy
         cases h
         exact ⟨_, by simp [binOp, Op.intDiv, hy], rfl, rfl⟩)
    | (cases h; done)
theorem run_binS {op : BinOp} {x y : ByteArray} {c : AV} (t : TypeId) (h : binS op x y = some c) :
    ∃ u, (binOp op t (.string x) (.string y)).run P w = .ok u w ∧ c = .lit u ∧ scal u = true := by
  cases op <;> simp only [binS] at h <;> first
    | (cases h; exact ⟨_, by simp [binOp, Op.stringOp], rfl, rfl⟩)
    | (split at h
       · rename_i hy
         cases h
         refine ⟨.string (x ++ y), ?_, rfl, rfl⟩
         have hz : ¬ (((x.size + y.size : Nat) : Int) > IntKind.i64.max) := by
           have : IntKind.i64.max = 9223372036854775807 := rfl
           rw [this]; omega
         simp [binOp, Op.stringOp] at hz ⊢
         omega
       · cases h)
    | (cases h; done)
theorem sc_underlying {T : Nat → TD} (hT : TOk P T) {t : Nat} {z : Value} (h : T t = .sc z) : ∃ ds, P.underlying t = some ds ∧ scOk ds z = true := by
  have := hT t
  unfold TOk1 at this
  rw [h] at this
  exact this.1
theorem scOk_bool {ds : TypeDesc} {b : Bool} (h : scOk ds (.bool b) = true) : ds = .bool := by
  cases ds <;> first | rfl | (simp [scOk] at h; done)
theorem kind_scOk {ds : TypeDesc} {z a : Value} (hz : scOk ds z = true) (h : kindV a = kindV z) (h0 : kindV z ≠ 0) :
    (∃ k, ds = .int k ∧ kindV z = 1) ∨ (ds = .bool ∧ kindV z = 2) ∨ (ds = .string ∧ kindV z = 3) := by
  cases ds <;> cases z <;> simp_all [scOk, kindV]
theorem eqLit_run {d : Nat} {t : Nat} {ds : TypeDesc} {z a b : Value} {r : Bool} (hu : P.underlying t = some ds) (hz : scOk ds z = true) (ha : kindV a = kindV z) (h0 : kindV z ≠ 0)
    (h : eqLit (.lit a) (.lit b) = some r) : (Op.equalIn (d + 1) t a b).run P w = .ok r w := by
  unfold eqLit at h
  split at h
  · rename_i k x k' y e1 e2
    cases e1; cases e2
    split at h
    · rename_i hk
      subst hk
      cases h
      rcases kind_scOk hz ha h0 with ⟨k2, rfl, _⟩ | ⟨rfl, h2⟩ | ⟨rfl, h2⟩
      · exact run_equalIn_int w d t k _ x y hu
      · rw [h2] at ha; cases ha
      · rw [h2] at ha; cases ha
    · cases h
  · rename_i x y e1 e2
    cases e1; cases e2
    cases h
    rcases kind_scOk hz ha h0 with ⟨k2, rfl, h2⟩ | ⟨rfl, h2⟩ | ⟨rfl, h2⟩
    · rw [h2] at ha; cases ha
    · exact run_equalIn_bool' w d t x y hu
    · rw [h2] at ha; cases ha
  · rename_i x y e1 e2
    cases e1; cases e2
    cases h
    rcases kind_scOk hz ha h0 with ⟨k2, rfl, h2⟩ | ⟨rfl, h2⟩ | ⟨rfl, h2⟩
    · rw [h2] at ha; cases ha
    · rw [h2] at ha; cases ha
    · rw [run_equalIn_string w d t x y hu, beq_toListBytes]
  · cases h
theorem kinds_some {cz : List (Option Nat × Value)} : ∀ {ks : List Nat}, kinds cz = some ks → ks.length = cz.length ∧ ∀ (i : Nat) (o : Option Nat) (z : Value), cz[i]? = some (o, z) → ks[i]? = some (kindV z) ∧ kindV z ≠ 0 := by
  induction cz with
  | nil => intro ks h; cases h; simp
  | cons p r ih =>
    intro ks h
    obtain ⟨o, z⟩ := p
    cases o with
    | some k => cases h
    | none =>
      simp only [kinds] at h
      cases hb : Nat.beq (kindV z) 0 with
      | true => rw [hb] at h; cases h
      | false =>
        rw [hb] at h
        cases hr : kinds r with
        | none => rw [hr] at h; cases h
        | some ks' =>
          rw [hr] at h
          cases h
          obtain ⟨h1, h2⟩ := ih hr
          refine ⟨by simp [h1], fun i o z' hi => ?_⟩
          cases i with
          | zero =>
            simp at hi
            obtain ⟨_, rfl⟩ := hi
            refine ⟨rfl, fun e => ?_⟩
            rw [e] at hb
            cases hb
          | succ i => simpa using h2 i o z' (by simpa using hi)
theorem isAgg_scalar {t : Nat} {ds : TypeDesc} {z : Value} (hu : P.underlying t = some ds) (hz : scOk ds z = true) : (isAgg t).run P w = .ok false w := by
  cases ds <;> simp [scOk] at hz <;> simp [isAgg, run_underlying hu]
theorem part_scalar {t : Nat} {ds : TypeDesc} {z v : Value} {cs : Array Value} {off : Nat} (hu : P.underlying t = some ds) (hz : scOk ds z = true) (hc : cs[off]? = some v) : (part t cs off).run P w = .ok v w := by
  simp [part, isAgg_scalar hu hz, hc]
theorem eqLits_run {d : Nat} {cz : List (Option Nat × Value)} {ks : List Nat} {xs ys : Array Value} (hk : kinds cz = some ks) :
    ∀ {fs : List Field} {i : Nat} {as bs : List AV} {us vs : List Value} {F G : List Nat} {r : Bool}, PlainF P cz i fs → eqLits (ks.drop i) as bs = some r →
      Reps w Pr γ base as us F → Reps w Pr γ base bs vs G → (∀ j, us[j]? = xs[i + j]?) → (∀ j, vs[j]? = ys[i + j]?) → (Op.eqFields (d + 1) xs ys fs).run P w = .ok r w
  | [], i, as, bs, us, vs, F, G, r, hp, he, h1, h2, h3, h4 => by
    obtain ⟨hl, _⟩ := kinds_some hk
    have hi : i = cz.length := hp
    rw [List.drop_eq_nil_of_le (by omega)] at he
    cases as <;> cases bs <;> simp [eqLits] at he
    subst he
    simp [Op.eqFields]
  | f :: fs, i, as, bs, us, vs, F, G, r, hp, he, h1, h2, h3, h4 => by
    obtain ⟨hl, hks⟩ := kinds_some hk
    obtain ⟨p1, p2, ⟨ds, z, p3, p4, p5⟩, p6⟩ := hp
    obtain ⟨hk1, hk2⟩ := hks i none z p5
    have hlt : i < ks.length := by
      rcases Nat.lt_or_ge i ks.length with h | h
      · exact h
      · rw [List.getElem?_eq_none h] at hk1; cases hk1
    rw [List.drop_eq_getElem_cons hlt] at he
    have hki : ks[i] = kindV z := by rw [List.getElem?_eq_getElem hlt] at hk1; exact Option.some.inj hk1
    rw [hki] at he
    cases as with
    | nil => cases bs <;> simp [eqLits] at he
    | cons a as =>
    cases bs with
    | nil => cases a <;> simp [eqLits] at he
    | cons b bs =>
    obtain ⟨a1, rfl⟩ : ∃ u, a = .lit u := by cases a <;> first | exact ⟨_, rfl⟩ | (simp [eqLits] at he; done)
    obtain ⟨b1, rfl⟩ : ∃ u, b = .lit u := by cases b <;> first | exact ⟨_, rfl⟩ | (simp [eqLits] at he; done)
    simp only [eqLits] at he
    cases hb : Nat.beq (kindV a1) (kindV z) && Nat.beq (kindV b1) (kindV z) with
    | false => rw [hb] at he; cases he
    | true =>
      rw [hb] at he
      simp only [Bool.and_eq_true] at hb
      cases h1 with
      | @cons _ v1 _ _ _ _ _ ha h1 =>
      cases h2 with
      | @cons _ v2 _ _ _ _ _ hb' h2 =>
      obtain ⟨rfl, _, _⟩ := rep_lit ha
      obtain ⟨rfl, _, _⟩ := rep_lit hb'
      cases hq : eqLit (.lit v1) (.lit v2) with
      | none => rw [hq] at he; cases he
      | some e =>
        rw [hq] at he
        simp only [cond_true, Option.bind_some] at he
        have hx := h3 0
        have hy := h4 0
        simp only [List.getElem?_cons_zero, Nat.add_zero] at hx hy
        have hrun := eqLit_run (d := d) (w := w) p3 p4 (Nat.eq_of_beq_eq_true hb.1) hk2 hq
        simp only [Op.eqFields]
        rw [if_pos p1]
        subst p2
        simp only [Sem.run_bind, part_scalar p3 p4 hx.symm, part_scalar p3 p4 hy.symm, hrun, Result.andThen_ok]
        cases e with
        | false => simp at he; subst he; simp
        | true =>
          simp only [cond_true] at he
          simp only [Bool.not_true, Bool.false_eq_true, if_false]
          exact eqLits_run hk p6 he h1 h2 (fun j => by have := h3 (j + 1); rw [List.getElem?_cons_succ] at this; rw [this]; congr 1; omega)
            (fun j => by have := h4 (j + 1); rw [List.getElem?_cons_succ] at this; rw [this]; congr 1; omega)
end
end Go.Fx
