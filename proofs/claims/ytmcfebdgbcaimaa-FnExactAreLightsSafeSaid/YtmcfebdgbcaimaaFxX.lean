/- Regions that draw their order. -/
import Derived.Test.YtmcfebdgbcaimaaFxW
set_option linter.all false
namespace Go.Fx

section
variable {P : Program} {GE : Glob} {β : Type} {r : β} {E : Ctx} {id : Nat} {ops : Array Oper}

def AgrT (ops : Array Oper) (o : Oper) (s s' : St) : Prop := (∀ t, t ∈ o.looksAt ops → s'.env t = s.env t) ∧ s'.L = s.L ∧ s'.G = s.G

theorem AgrT.agr {o : Oper} {s s' : St} (h : AgrT ops o s s') : Agr o.op.operands.toList s s' := ⟨fun t ht => h.1 t (by
  unfold Oper.looksAt
  refine List.mem_append_left _ ?_
  rw [List.mem_filterMap]
  exact ⟨_, ht, rfl⟩), h.2⟩

theorem AgrT.refl (o : Oper) (s : St) : AgrT ops o s s := ⟨fun _ _ => rfl, rfl, rfl⟩

theorem put_agr {o : Oper} {s : St} {dst : Option Nat} {v : SV} (h : ∀ d, dst = some d → d ∉ o.looksAt ops) : AgrT ops o s (put s dst v) := by
  cases dst with
  | none => exact AgrT.refl o s
  | some d => exact ⟨fun t ht => upd_ne _ _ fun e => h d rfl (e ▸ ht), rfl, rfl⟩

theorem put_agr' {o : Oper} {s : St} {dst : Option Nat} {v : SV} (h : ∀ d, dst = some d → d ∉ o.looksAt ops) : AgrT ops o (put s dst v) s := by
  obtain ⟨h1, h2, h3⟩ := put_agr (s := s) (v := v) h
  exact ⟨fun t ht => (h1 t ht).symm, h2.symm, h3.symm⟩

theorem put_comm {s : St} {d1 d2 : Option Nat} {v1 v2 : SV} (h : ∀ d, d1 = some d → d2 ≠ some d) : put (put s d1 v1) d2 v2 = put (put s d2 v2) d1 v1 := by
  cases d1 with
  | none => rfl
  | some a =>
    cases d2 with
    | none => rfl
    | some b =>
      have hab : b ≠ a := fun e => h a rfl (by rw [e])
      show ({ s with env := upd (upd s.env a v1) b v2 } : St) = { s with env := upd (upd s.env b v2) a v1 }
      congr 1
      funext t
      by_cases ha : t = a
      · subst ha
        rw [upd_same, upd_ne _ _ (fun e => hab e.symm), upd_same]
      · by_cases hb : t = b
        · subst hb
          rw [upd_same, upd_ne _ _ ha, upd_same]
        · rw [upd_ne _ _ hb, upd_ne _ _ ha, upd_ne _ _ ha, upd_ne _ _ hb]

def quiet (E : Ctx) (id : Nat) (p : Oper × Nat) : Prop := plainOp E p.1 = true ∧ E.tk id p.2 = false ∧ E.mo id p.2 = false

theorem evalOp_foot {o : Oper} {i : Nat} {s : St} {K : St → Option β} (hq : quiet E id (o, i)) (h : evalOp E id ops i o s K = some r) :
    ∃ v, K (put s o.dst v) = some r ∧ ∀ s', AgrT ops o s s' → ∀ K' : St → Option β, evalOp E id ops i o s' K' = K' (put s' o.dst v) := by
  obtain ⟨hp, htk, hmo⟩ := hq
  simp only at hp htk hmo
  unfold evalOp at h
  cases hg : o.guard with
  | none =>
    rw [hg] at h
    simp only at h
    cases hok : okD E.nt o.dst with
    | false => rw [hok] at h; cases h
    | true =>
      rw [hok] at h
      obtain ⟨v, h1, h2⟩ := opR_foot hp htk hmo h
      refine ⟨v, h1, fun s' ha K' => ?_⟩
      simp only [evalOp, hg, hok, cond_true]
      exact h2 s' ha.agr _
  | some jw =>
    obtain ⟨j, want⟩ := jw
    rw [hg] at h
    simp only at h
    split at h
    · cases h
    · rename_i t ht
      cases hok : okD E.nt o.dst with
      | false => rw [hok] at h; cases h
      | true =>
        rw [hok] at h
        simp only [Bool.not_true, cond_false] at h
        have htl : t ∈ o.looksAt ops := by
          unfold Oper.looksAt
          refine List.mem_append_right _ ?_
          simp [hg, ht]
        split at h
        · rename_i hen
          refine ⟨_, h, fun s' ha K' => ?_⟩
          have e1 : s'.env t = .val (.tup []) := (ha.1 t htl).trans hen
          simp only [evalOp, hg, ht, hok, Bool.not_true, cond_false, e1]
        obtain ⟨b, hb, h⟩ := condA_some h
        have hen := svA_bool hb
        have hself : ∀ {s' : St}, s'.env t = s.env t → ({ s' with env := upd s'.env t (litB b) } : St) = s' := fun {s'} e => by
          have : upd s'.env t (litB b) = s'.env := by rw [← hen, ← e]; exact upd_self _ _
          rw [this]
        -- what it comes to in any state that agrees
        have hrw : ∀ s', AgrT ops o s s' → ∀ K' : St → Option β, evalOp E id ops i o s' K' = bif b == want then opR E id i o s' (fun v s'' => K' (put s'' o.dst v)) else K' (put s' o.dst (.val junk)) := by
          intro s' ha K'
          have e1 : s'.env t = litB b := (ha.1 t htl).trans hen
          have e2 := hself (ha.1 t htl)
          have e3 : svA (s'.env t) = .lit (.bool b) := by rw [e1]; rfl
          have e4 : s'.env t = .val (.lit (.bool b)) := e1
          simp only [evalOp, hg, ht, hok, Bool.not_true, cond_false, e4, svA, condA, cnd]
          cases b <;> cases want <;> simp only [cond_true, cond_false] <;> rw [e2] <;> rfl
        have h' : (bif b == want then opR E id i o s (fun v s'' => K (put s'' o.dst v)) else K (put s o.dst (.val junk))) = some r := by
          rw [← h]
          have e2 := hself (s' := s) rfl
          cases b <;> cases want <;> simp only [cond_true, cond_false] <;> rw [e2] <;> rfl
        cases hbw : b == want with
        | true =>
          rw [hbw] at h'
          obtain ⟨v, h1, h2⟩ := opR_foot hp htk hmo h'
          exact ⟨v, h1, fun s' ha K' => by rw [hrw s' ha K', hbw]; exact h2 s' ha.agr _⟩
        | false =>
          rw [hbw] at h'
          exact ⟨.val junk, h', fun s' ha K' => by rw [hrw s' ha K', hbw]; rfl⟩

theorem evalOp_swap {x y : Oper} {i k : Nat} {s : St} {K : St → Option β} (hx : quiet E id (x, i)) (hy : quiet E id (y, k)) (ha : Oper.apart ops y x = true)
    (h : evalOp E id ops k y s (fun s1 => evalOp E id ops i x s1 K) = some r) : evalOp E id ops i x s (fun s1 => evalOp E id ops k y s1 K) = some r := by
  obtain ⟨a1, a2, a3⟩ := Oper.apart_spec ha
  obtain ⟨vy, h1, fy⟩ := evalOp_foot hy h
  obtain ⟨vx, h2, fx⟩ := evalOp_foot hx h1
  rw [fx s (put_agr' a1), fy _ (put_agr a3), put_comm fun d hd e => a2 d e hd]
  exact h2

def evalL (E : Ctx) (id : Nat) (ops : Array Oper) : List (Oper × Nat) → St → (St → Option β) → Option β
  | [], s, K => K s
  | p :: rest, s, K => evalOp E id ops p.2 p.1 s fun s' => evalL E id ops rest s' K

theorem evalOps_evalL {K : St → Option β} : ∀ {l : List Oper} {i : Nat} {s : St}, evalOps E id ops i l s K = evalL E id ops (l.zipIdx i) s K
  | [], i, s => rfl
  | o :: l, i, s => by
    simp only [evalOps, List.zipIdx_cons, evalL]
    congr 1
    funext s'
    exact evalOps_evalL

theorem evalL_bubble {x : Oper × Nat} {L2 : List (Oper × Nat)} {K : St → Option β} (hx : quiet E id x) : ∀ {L1 : List (Oper × Nat)} {s : St}, (∀ y ∈ L1, quiet E id y ∧ Oper.apart ops y.1 x.1 = true) →
    evalL E id ops (L1 ++ x :: L2) s K = some r → evalL E id ops (x :: (L1 ++ L2)) s K = some r
  | [], s, _, h => h
  | y :: L1, s, hL, h => by
    obtain ⟨hy, ha⟩ := hL y (List.mem_cons_self ..)
    simp only [List.cons_append, evalL] at h
    obtain ⟨vy, h1, fy⟩ := evalOp_foot hy h
    have h2 := evalL_bubble hx (fun z hz => hL z (List.mem_cons_of_mem _ hz)) h1
    simp only [evalL] at h2
    have h3 : evalOp E id ops y.2 y.1 s (fun s1 => evalOp E id ops x.2 x.1 s1 fun s' => evalL E id ops (L1 ++ L2) s' K) = some r := by
      rw [fy s (AgrT.refl _ _)]
      exact h2
    exact evalOp_swap hx hy ha h3

/-- what the check says -/
theorem clashFree_spec (h : clashFree E id ops = true) {o : Oper} {j : Nat} (ho : ops[j]? = some o) :
    quiet E id (o, j) ∧ (∀ e ∈ o.after, Region.binds .any e = true → e.on < j) ∧ ∀ p i, ops[i]? = some p → i < j → (∃ e ∈ o.after, Region.binds .any e = true ∧ e.on = i) ∨ Oper.apart ops p o = true := by
  unfold clashFree at h
  rw [List.all_eq_true] at h
  have hm : ∀ {p : Oper} {i : Nat}, ops[i]? = some p → (p, i) ∈ ops.toList.zipIdx := fun {p i} hp => by
    rw [List.mem_zipIdx_iff_getElem?]
    simpa using hp
  have h1 := h _ (hm ho)
  simp only [Bool.and_eq_true, Bool.not_eq_true'] at h1
  obtain ⟨⟨⟨⟨h1, h2⟩, h3⟩, h4⟩, h5⟩ := h1
  refine ⟨⟨h1, h2, h3⟩, fun e he hb => ?_, fun p i hp hij => ?_⟩
  · have := Array.all_eq_true_iff_forall_mem.1 h4 e he
    rw [hb] at this
    exact blt_lt (by simpa using this)
  · rw [List.all_eq_true] at h5
    have := h5 _ (hm hp)
    simp only [Bool.or_eq_true, Bool.not_eq_true'] at this
    rcases this with (h | h) | h
    · have : Nat.blt i j = true := by simp [Nat.blt]; omega
      rw [this] at h
      cases h
    · obtain ⟨e, he, hb⟩ := Array.any_eq_true'.1 h
      rw [Bool.and_eq_true] at hb
      exact .inl ⟨e, he, hb.1, Nat.eq_of_beq_eq_true hb.2⟩
    · exact .inr h

theorem drawn_ok (hT : TOk P E.T) (hC : CallOk P GE.ng GE.G0 E.C) (hcf : clashFree E id ops = true) {K : St → Option β} {D : Nat → Prop} {Pr0 : Nat → Nat → Prop} {w0 : World} {Q : Exit → Act → World → Prop}
    (hQ : ∀ s1 a' w', K s1 = some r → At GE D Pr0 w0 E.nt s1 a' w' → Q .normal a' w') : ∀ (fuel : Nat) (listed : Array Bool) (rem : List (Oper × Nat)) (s : St) (a : Act) (w : World), rem.length ≤ fuel → listed.size = ops.size →
    rem.Pairwise (fun p q => p.2 < q.2) → (∀ p, p ∈ rem ↔ (ops[p.2]? = some p.1 ∧ listed.getD p.2 true = false)) → evalL E id ops rem s K = some r → At GE D Pr0 w0 E.nt s a w → wpAny P .any ops Q fuel listed a w
  | 0, listed, rem, s, a, w, hl, _, _, hm, h, hat => by
    have hr : rem = [] := List.eq_nil_of_length_eq_zero (by omega)
    subst hr
    refine ⟨?_, hQ s a w h hat⟩
    cases hrd : Region.ready .any ops listed with
    | nil => rfl
    | cons j js =>
      have hj : j ∈ Region.ready .any ops listed := by rw [hrd]; exact List.mem_cons_self ..
      obtain ⟨h1, o, h2, _⟩ := mem_ready.1 hj
      have := (hm (o, j)).2 ⟨h2, h1⟩
      cases this
  | fuel + 1, listed, rem, s, a, w, hl, hsz, hpw, hm, h, hat => by
    refine ⟨fun hrd => ?_, fun i hi => ?_⟩
    · cases rem with
      | nil => exact hQ s a w h hat
      | cons p rem =>
        exfalso
        obtain ⟨hp1, hp2⟩ := (hm p).1 (List.mem_cons_self ..)
        obtain ⟨_, hed, _⟩ := clashFree_spec hcf hp1
        have : p.2 ∈ Region.ready .any ops listed := mem_ready.2 ⟨hp2, p.1, hp1, fun e he hb => by
          have hlt := hed e he hb
          have hpl : p.2 < ops.size := (Array.getElem?_eq_some_iff.1 hp1).1
          have hel : e.on < listed.size := by omega
          cases hq : listed.getD e.on false with
          | true => rfl
          | false =>
            exfalso
            have hq' : listed.getD e.on true = false := by simpa [hel] using hq
            obtain ⟨q, hq1⟩ : ∃ q, ops[e.on]? = some q := ⟨_, Array.getElem?_eq_getElem (by omega)⟩
            have hmem := (hm (q, e.on)).2 ⟨hq1, hq'⟩
            rcases List.mem_cons.1 hmem with hmem | hmem
            · rw [← hmem] at hlt
              exact absurd hlt (Nat.lt_irrefl _)
            · have := (List.pairwise_cons.1 hpw).1 _ hmem
              simp only at this
              omega⟩
        rw [hrd] at this
        cases this
    · obtain ⟨h1, o, h2, h3⟩ := mem_ready.1 hi
      have hmem := (hm (o, i)).2 ⟨h2, h1⟩
      obtain ⟨L1, L2, rfl⟩ := List.append_of_mem hmem
      obtain ⟨hq, _, hap⟩ := clashFree_spec hcf h2
      have hpw' := List.pairwise_append.1 hpw
      have hb := evalL_bubble hq (fun y hy => by
        obtain ⟨y1, y2⟩ := (hm y).1 (List.mem_append_left _ hy)
        refine ⟨(clashFree_spec hcf y1).1, ?_⟩
        have hlt := hpw'.2.2 y hy _ (List.mem_cons_self ..)
        rcases hap y.1 y.2 y1 hlt with ⟨e, he, hb, hon⟩ | h
        · have h4 := h3 e he hb
          rw [hon] at h4
          have hyl : y.2 < listed.size := by rw [hsz]; exact (Array.getElem?_eq_some_iff.1 y1).1
          simp [hyl] at h4 y2
          rw [y2] at h4
          cases h4
        · exact h) h
      simp only [evalL] at hb
      obtain ⟨s1, g1, g2⟩ := evalOp_ok (GE := GE) hT hC hb
      unfold wpOp
      simp only [h2]
      refine g2 D Pr0 w0 a w hat _ Q fun a' w' hat' => ?_
      refine drawn_ok hT hC hcf hQ fuel _ (L1 ++ L2) s1 a' w' (by simp at hl ⊢; omega) (by simpa using hsz) ?_ (fun p => ?_) g1 hat'
      · rw [List.pairwise_append]
        exact ⟨hpw'.1, (List.pairwise_cons.1 hpw'.2.1).2, fun y hy z hz => hpw'.2.2 y hy z (List.mem_cons_of_mem _ hz)⟩
      · have hil : i < listed.size := by rw [hsz]; exact (Array.getElem?_eq_some_iff.1 h2).1
        have hne : p ∈ L1 ++ L2 → p.2 ≠ i := fun hp e => by
          rcases List.mem_append.1 hp with hp | hp
          · have := hpw'.2.2 p hp _ (List.mem_cons_self ..)
            simp only at this
            omega
          · have := (List.pairwise_cons.1 hpw'.2.1).1 p hp
            simp only at this
            omega
        constructor
        · intro hp
          have hn := hne hp
          have := (hm p).1 (by
            rcases List.mem_append.1 hp with hp | hp
            · exact List.mem_append_left _ hp
            · exact List.mem_append_right _ (List.mem_cons_of_mem _ hp))
          exact ⟨this.1, by rw [getD_set_ne true (fun e => hn e.symm)]; exact this.2⟩
        · rintro ⟨p1, p2⟩
          have hn : i ≠ p.2 := fun e => by
            subst e
            simp [hil] at p2
          rw [getD_set_ne true hn] at p2
          have := (hm p).2 ⟨p1, p2⟩
          rcases List.mem_append.1 this with h | h
          · exact List.mem_append_left _ h
          · rcases List.mem_cons.1 h with h | h
            · exact absurd (by rw [h]) hn
            · exact List.mem_append_right _ h

end
end Go.Fx
