/- Regions that draw their order. -/
import Derived.Test.YtjgfhonfmjfabaaGreatFzW
set_option linter.all false
namespace Go.Fx

section
variable {P : Program} {GE : Glob} {β : Type} {r : β} {E : Ctx} {id : Nat} {ops : Array Oper}

def AgrT (ops : Array Oper) (o : Oper) (s s' : St) : Prop := (∀ t, t ∈ o.looksAt ops → s'.env t = s.env t) ∧ (∀ key ob, s.L key = some ob → s'.L key = some ob) ∧ s'.G = s.G

theorem AgrT.agr {o : Oper} {s s' : St} (h : AgrT ops o s s') : Agr o.op.operands.toList s s' := ⟨fun t ht => h.1 t (by
  unfold Oper.looksAt
  refine List.mem_append_left _ ?_
  rw [List.mem_filterMap]
  exact ⟨_, ht, rfl⟩), h.2⟩

theorem AgrT.refl (o : Oper) (s : St) : AgrT ops o s s := ⟨fun _ _ => rfl, fun _ _ h => h, rfl⟩

/-- what an operation that may change places does: it takes, and writes -/
def eff (s : St) (n : Option Nat) (d : Option Nat) (v : SV) : St := put (taken s n) d v

theorem taken_L (s : St) (n : Option Nat) : (taken s n).L = s.L := by
  cases n with
  | none => rfl
  | some n => simp only [taken]; split <;> rfl
theorem taken_G (s : St) (n : Option Nat) : (taken s n).G = s.G := by
  cases n with
  | none => rfl
  | some n => simp only [taken]; split <;> rfl
theorem eff_L (s : St) (n d : Option Nat) (v : SV) : (eff s n d v).L = s.L := by
  cases d <;> exact taken_L s n
theorem eff_G (s : St) (n d : Option Nat) (v : SV) : (eff s n d v).G = s.G := by
  cases d <;> exact taken_G s n
/-- what becomes of a temporary -/
def clrSV : SV → SV
  | .val a => .val a.clr
  | x => x
theorem taken_env (s : St) (n : Option Nat) (t : Nat) : (taken s n).env t = if n = some t then clrSV (s.env t) else s.env t := by
  cases n with
  | none => simp [taken]
  | some n =>
    simp only [taken, Option.some.injEq]
    cases he : s.env n with
    | val c =>
      by_cases h : n = t
      · subst h; simp [upd_same, he, clrSV]
      · simp [h, upd_ne _ _ (fun e => h e.symm)]
    | _ =>
      by_cases h : n = t
      · subst h; simp [he, clrSV]
      · simp [h]
theorem eff_env (s : St) (n d : Option Nat) (v : SV) (t : Nat) : (eff s n d v).env t = if d = some t then v else if n = some t then clrSV (s.env t) else s.env t := by
  cases d with
  | none => simp only [eff, put, reduceCtorEq, if_false]; exact taken_env s n t
  | some d =>
    by_cases h : d = t
    · subst h; simp [eff, put, upd_same]
    · simp only [eff, put, Option.some.injEq, h, if_false]
      rw [upd_ne _ _ (fun e => h e.symm)]
      exact taken_env s n t
theorem St.ext' {s s' : St} (h1 : ∀ t, s.env t = s'.env t) (h2 : s.L = s'.L) (h3 : s.G = s'.G) : s = s' := by
  obtain ⟨e, l, g⟩ := s
  obtain ⟨e', l', g'⟩ := s'
  simp only at h1 h2 h3
  obtain rfl : e = e' := funext h1
  rw [h2, h3]

theorem leaves_spec {n : Nat} {o : Oper} (h : leaves ops (some n) o = true) : n ∉ o.looksAt ops ∧ o.dst ≠ some n := by
  simp only [leaves, Bool.and_eq_true, Bool.not_eq_true', List.any_eq_false] at h
  refine ⟨fun hm => ?_, fun hd => ?_⟩
  · exact h.1 n hm (Nat.beq_refl n)
  · rw [hd] at h
    have := h.2
    simp at this

theorem eff_agr {o : Oper} {s : St} {n d : Option Nat} {v : SV} (h : ∀ d', d = some d' → d' ∉ o.looksAt ops) (hn : leaves ops n o = true) : AgrT ops o s (eff s n d v) := by
  refine ⟨fun t ht => ?_, fun key ob hk => by rw [eff_L]; exact hk, eff_G _ _ _ _⟩
  rw [eff_env, if_neg (fun e => h t e ht), if_neg (fun e => by subst e; exact (leaves_spec hn).1 ht)]

theorem eff_agr' {o : Oper} {s : St} {n d : Option Nat} {v : SV} (h : ∀ d', d = some d' → d' ∉ o.looksAt ops) (hn : leaves ops n o = true) : AgrT ops o (eff s n d v) s := by
  obtain ⟨h1, h2, h3⟩ := eff_agr (s := s) (v := v) h hn
  exact ⟨fun t ht => (h1 t ht).symm, fun key ob hk => by rw [eff_L] at hk; exact hk, h3.symm⟩

theorem eff_comm {s : St} {n1 n2 d1 d2 : Option Nat} {v1 v2 : SV} (h : ∀ d, d1 = some d → d2 ≠ some d) (h1 : ∀ d, n1 = some d → d2 ≠ some d) (h2 : ∀ d, n2 = some d → d1 ≠ some d) :
    eff (eff s n1 d1 v1) n2 d2 v2 = eff (eff s n2 d2 v2) n1 d1 v1 := by
  refine St.ext' (fun t => ?_) (by simp only [eff_L]) (by simp only [eff_G])
  simp only [eff_env]
  by_cases e1 : d1 = some t
  · rw [if_neg (h t e1), if_neg (fun e => h2 t e e1), if_pos e1, if_pos e1]
  · by_cases e2 : d2 = some t
    · rw [if_pos e2, if_neg e1, if_neg (fun e => h1 t e e2), if_pos e2]
    · simp only [if_neg e1, if_neg e2]
      split <;> split <;> rfl

abbrev mov (E : Ctx) (id : Nat) (p : Oper × Nat) : Prop := movable E id p.1 p.2 = true
abbrev tak (E : Ctx) (id : Nat) (p : Oper × Nat) : Option Nat := takeOf (E.tk id p.2) p.1

theorem evalOp_foot {o : Oper} {i : Nat} {s : St} {K : St → Option β} (hq : mov E id (o, i)) (h : evalOp E id ops i o s K = some r) :
    ∃ v, K (eff s (tak E id (o, i)) o.dst v) = some r ∧ ∀ s', AgrT ops o s s' → ∀ K' : St → Option β, evalOp E id ops i o s' K' = K' (eff s' (tak E id (o, i)) o.dst v) := by
  have hm : movable E id o i = true := hq
  unfold evalOp at h
  cases hg : o.guard with
  | none =>
    rw [hg] at h
    simp only at h
    cases hok : okE E.nt E.kp o.dst with
    | false => rw [hok] at h; cases h
    | true =>
      rw [hok] at h
      obtain ⟨v, h1, h2⟩ := opR_foot' hm h
      refine ⟨v, h1, fun s' ha K' => ?_⟩
      simp only [evalOp, hg, hok, cond_true]
      exact h2 s' ha.agr _
  | some jw =>
    have htn : tak E id (o, i) = none := takeOf_guard hg
    rw [htn]
    have hm2 := hm
    unfold movable at hm2
    simp only [Bool.and_eq_true, Bool.or_eq_true, Bool.not_eq_true'] at hm2
    rcases hm2 with hm2 | hm2
    case inr =>
      have := (isApp_spec hm2.1.1.1.1).1
      rw [hg] at this
      cases this
    obtain ⟨⟨⟨⟨hp, hmo⟩, hm2⟩, hpm⟩, hth⟩ := hm2
    have htk : E.tk id i = false := by
      rcases hm2 with hm2 | hm2
      · exact hm2
      · rw [takeOf_guard hg] at hm2; cases hm2.1
    obtain ⟨j, want⟩ := jw
    rw [hg] at h
    simp only at h
    split at h
    · cases h
    · rename_i t ht
      cases hok : okE E.nt E.kp o.dst with
      | false => rw [hok] at h; cases h
      | true =>
        rw [hok] at h
        simp only [Bool.not_true, cond_false] at h
        have htl : t ∈ o.looksAt ops := by
          unfold Oper.looksAt
          refine List.mem_append_right _ ?_
          simp [hg, ht]
        split at h
        · rename_i hen
          refine ⟨_, h, fun s' ha K' => ?_⟩
          have e1 : s'.env t = .val (.tup []) := (ha.1 t htl).trans hen
          simp only [evalOp, hg, ht, hok, Bool.not_true, cond_false, e1]
          rfl
        obtain ⟨b, hb, h⟩ := condA_some h
        have hen := svA_bool hb
        have hself : ∀ {s' : St}, s'.env t = s.env t → ({ s' with env := upd s'.env t (litB b) } : St) = s' := fun {s'} e => by
          have : upd s'.env t (litB b) = s'.env := by rw [← hen, ← e]; exact upd_self _ _
          rw [this]
        -- what it comes to in any state that agrees
        have hrw : ∀ s', AgrT ops o s s' → ∀ K' : St → Option β, evalOp E id ops i o s' K' = bif b == want then opR E id i o s' (fun v s'' => K' (put s'' o.dst v)) else K' (put s' o.dst (.val junk)) := by
          intro s' ha K'
          have e1 : s'.env t = litB b := (ha.1 t htl).trans hen
          have e2 := hself (ha.1 t htl)
          have e3 : svA (s'.env t) = .lit (.bool b) := by rw [e1]; rfl
          have e4 : s'.env t = .val (.lit (.bool b)) := e1
          simp only [evalOp, hg, ht, hok, Bool.not_true, cond_false, e4, svA, condA, cnd]
          cases b <;> cases want <;> simp only [cond_true, cond_false] <;> rw [e2] <;> rfl
        have h' : (bif b == want then opR E id i o s (fun v s'' => K (put s'' o.dst v)) else K (put s o.dst (.val junk))) = some r := by
          rw [← h]
          have e2 := hself (s' := s) rfl
          cases b <;> cases want <;> simp only [cond_true, cond_false] <;> rw [e2] <;> rfl
        cases hbw : b == want with
        | true =>
          rw [hbw] at h'
          obtain ⟨v, h1, h2⟩ := opR_foot hp hpm hth htk hmo h'
          exact ⟨v, h1, fun s' ha K' => by rw [hrw s' ha K', hbw]; exact h2 s' ha.agr _⟩
        | false =>
          rw [hbw] at h'
          exact ⟨.val junk, h', fun s' ha K' => by rw [hrw s' ha K', hbw]; rfl⟩

/-- the one leaves alone what the other takes and writes -/
def Part (E : Ctx) (id : Nat) (ops : Array Oper) (y x : Oper × Nat) : Prop :=
  Oper.apart ops y.1 x.1 = true ∧ leaves ops (tak E id y) x.1 = true ∧ (isNew E id x.2 x.1 = true ∨ leaves ops (tak E id x) y.1 = true)

theorem isNew_spec {o : Oper} {j : Nat} (h : isNew E id j o = true) : Nat.beq (E.hb id j) 0 = true ∧ E.th id j = false ∧ o.guard = none ∧ ∃ t, o.op = .alloc t := by
  unfold isNew at h
  simp only [Bool.and_eq_true, Bool.not_eq_true'] at h
  refine ⟨h.1.1, h.1.2, ?_⟩
  have h := h.2
  split at h
  · rename_i h1 h2; exact ⟨h1, _, h2⟩
  · cases h

theorem evalOp_swap {x y : Oper × Nat} {s : St} {K : St → Option β} (hx : mov E id x) (hy : mov E id y) (hap : Oper.apart ops y.1 x.1 = true) (hl1 : leaves ops (tak E id y) x.1 = true) (hl2 : leaves ops (tak E id x) y.1 = true)
    (h : evalOp E id ops y.2 y.1 s (fun s1 => evalOp E id ops x.2 x.1 s1 K) = some r) : evalOp E id ops x.2 x.1 s (fun s1 => evalOp E id ops y.2 y.1 s1 K) = some r := by
  obtain ⟨a1, a2, a3⟩ := Oper.apart_spec hap
  obtain ⟨vy, h1, fy⟩ := evalOp_foot hy h
  obtain ⟨vx, h2, fx⟩ := evalOp_foot hx h1
  rw [fx s (eff_agr' a1 hl1), fy _ (eff_agr a3 hl2), eff_comm (fun d hd e => a2 d e hd) (fun d hd e => ?_) (fun d hd e => ?_)]
  · exact h2
  · have hd' : tak E id (x.1, x.2) = some d := hd
    rw [show tak E id x = some d from hd'] at hl2
    exact (leaves_spec hl2).2 e
  · have hd' : tak E id (y.1, y.2) = some d := hd
    rw [show tak E id y = some d from hd'] at hl1
    exact (leaves_spec hl1).2 e

theorem opR_new {o : Oper} {i : Nat} {t : Nat} {s : St} {K : SV → St → Option β} (hb : Nat.beq (E.hb id i) 0 = true) (hth : E.th id i = false) (ho : o.op = .alloc t) (h : opR E id i o s K = some r) :
    ∃ d, o.dst = some d ∧ (E.T t).ok = true ∧ E.rt id i = none ∧ s.L d = none ∧ K (.lp d 0 0) { s with L := upd s.L d (some ⟨false, (E.T t).size, [(E.T t).zero]⟩) } = some r := by
  unfold opR at h
  rw [hth] at h
  simp only [cond_false] at h
  unfold opR0 at h
  unfold opM at h
  rw [hb] at h
  simp only [cond_true] at h
  cases hrt : E.rt id i with
  | none =>
    rw [hrt] at h
    simp only [opK, ho] at h
    cases hok : (E.T t).ok with
    | false => rw [hok] at h; cases h
    | true =>
      rw [hok] at h
      simp only [Bool.not_true, cond_false, newObj] at h
      split at h
      · cases h
      · rename_i d hd
        split at h
        · rename_i hL
          exact ⟨d, hd, rfl, rfl, hL, h⟩
        · cases h
  | some A =>
    rw [hrt] at h
    simp only [opK, ho] at h
    cases hok : (E.T t).ok with
    | false => rw [hok] at h; cases h
    | true =>
      rw [hok] at h
      simp only [Bool.not_true, cond_false, newObj] at h
      split at h
      · cases h
      · split at h
        · cases h
        · cases h

theorem evalOp_swapNew {x y : Oper × Nat} {s : St} {K : St → Option β} (hx : isNew E id x.2 x.1 = true) (hy : mov E id y) (hap : Oper.apart ops y.1 x.1 = true) (hl1 : leaves ops (tak E id y) x.1 = true)
    (h : evalOp E id ops y.2 y.1 s (fun s1 => evalOp E id ops x.2 x.1 s1 K) = some r) : evalOp E id ops x.2 x.1 s (fun s1 => evalOp E id ops y.2 y.1 s1 K) = some r := by
  obtain ⟨a1, a2, a3⟩ := Oper.apart_spec hap
  obtain ⟨hb, hth, hg, t, ho⟩ := isNew_spec hx
  obtain ⟨vy, h1, fy⟩ := evalOp_foot hy h
  unfold evalOp at h1
  rw [hg] at h1
  simp only at h1
  cases hok : okE E.nt E.kp x.1.dst with
  | false => rw [hok] at h1; cases h1
  | true =>
    rw [hok] at h1
    obtain ⟨d, hd, htok, hrt, hL, h2⟩ := opR_new hb hth ho h1
    rw [eff_L] at hL h2
    have e : ∀ K' : St → Option β, evalOp E id ops x.2 x.1 s K' = K' (put { s with L := upd s.L d (some ⟨false, (E.T t).size, [(E.T t).zero]⟩) } x.1.dst (.lp d 0 0)) := fun K' => by
      unfold evalOp
      rw [hg]
      simp only [hok, cond_true]
      unfold opR
      rw [hth]
      simp only [cond_false]
      unfold opR0
      rw [hrt]
      simp only
      unfold opM
      rw [hb]
      simp only [cond_true, opK, ho, htok, Bool.not_true, cond_false, newObj]
      rw [hd]
      simp only [hL]
    have hag : AgrT ops y.1 s (put { s with L := upd s.L d (some ⟨false, (E.T t).size, [(E.T t).zero]⟩) } x.1.dst (.lp d 0 0)) := by
      rw [hd]
      refine ⟨fun t' ht' => ?_, fun key ob hk => ?_, rfl⟩
      · exact upd_ne _ _ fun e1 => by subst e1; exact a3 _ hd ht'
      · have : key ≠ d := fun e1 => by subst e1; rw [hL] at hk; cases hk
        exact (upd_ne s.L _ this).trans hk
    rw [e, fy _ hag, ← h2]
    congr 1
    have hnd : tak E id (y.1, y.2) ≠ some d := fun e' => by
      rw [show tak E id y = some d from e'] at hl1
      exact (leaves_spec hl1).2 hd
    have hdd : y.1.dst ≠ some d := fun e' => a2 d e' hd
    refine St.ext' (fun t' => ?_) ?_ ?_
    · rw [eff_env, hd]
      show _ = upd _ d _ t'
      by_cases e1 : t' = d
      · subst e1
        rw [if_neg hdd, if_neg hnd, upd_same]
        exact upd_same _ _ _
      · rw [upd_ne _ _ e1, eff_env]
        have : (put { s with L := upd s.L d (some ⟨false, (E.T t).size, [(E.T t).zero]⟩) } (some d) (.lp d 0 0)).env t' = s.env t' := upd_ne _ _ e1
        rw [this]
    · rw [eff_L, hd]; rfl
    · rw [eff_G, hd]
      show s.G = (eff s _ _ _).G
      rw [eff_G]

theorem upd_comm' {α : Type} (f : Nat → α) {n d : Nat} (h : n ≠ d) (x y : α) : upd (upd f d y) n x = upd (upd f n x) d y := by
  funext i
  by_cases e1 : i = n
  · subst e1; rw [upd_same, upd_ne _ _ h, upd_same]
  · by_cases e2 : i = d
    · subst e2; rw [upd_ne _ _ e1, upd_same, upd_same]
    · rw [upd_ne _ _ e1, upd_ne _ _ e2, upd_ne _ _ e2, upd_ne _ _ e1]
theorem rd_put {tk : Bool} {cf : Value → Option AV} {x : Operand} {d : Nat} {b : AV} {s : St} {K : SV → St → Option β} (hne : x ≠ .tmp d) :
    rd tk cf x (put s (some d) (.val b)) K = rd tk cf x s (fun v s' => K v (put s' (some d) (.val b))) := by
  cases x with
  | tmp n =>
    have hn : n ≠ d := fun e => hne (by rw [e])
    have e1 : (put s (some d) (.val b)).env n = s.env n := upd_ne _ _ hn
    simp only [rd, e1]
    cases s.env n with
    | val a =>
      simp only
      cases tk with
      | false => rfl
      | true =>
        simp only [cond_true]
        congr 1
        show (⟨upd (upd s.env d (.val b)) n (.val a.clr), s.L, s.G⟩ : St) = ⟨upd (upd s.env n (.val a.clr)) d (.val b), s.L, s.G⟩
        rw [upd_comm' _ hn]
    | no => rfl
    | lp k i o => rfl
    | la k => rfl
    | lv k i o g => rfl
  | const v => rfl
  | func f => rfl
  | global g => rfl
theorem nolv_upd (f : Nat → SV) (d : Nat) (b : AV) : nolv (upd f d (.val b)) = upd (nolv f) d (.val b) := by
  funext i
  unfold nolv
  by_cases e : i = d
  · subst e; rw [upd_same, upd_same]
  · rw [upd_ne _ _ e, upd_ne _ _ e]
theorem storeK_put {dd : TD} {p : SV} {a : AV} {d : Nat} {b : AV} {s : St} {K : SV → St → Option β} :
    storeK E dd p a (put s (some d) (.val b)) K = storeK E dd p a s (fun v s' => K v (put s' (some d) (.val b))) := by
  cases p with
  | lp key i off =>
    simp only [storeK, put, nolv_upd]
  | val v =>
    cases v <;> simp only [storeK, put]
  | _ => rfl
theorem nolv_val {f : Nat → SV} {n : Nat} {a : AV} (h : f n = .val a) : nolv f n = .val a := by unfold nolv; rw [h]
theorem storeK_det {dd : TD} {p : SV} {a : AV} {s : St} {K : SV → St → Option β} (h : storeK E dd p a s K = some r) :
    ∃ s2, K .no s2 = some r ∧ (∀ K' : SV → St → Option β, storeK E dd p a s K' = K' .no s2) ∧ ∀ n c, s.env n = .val c → s2.env n = .val c := by
  unfold storeK at h
  split at h
  · rename_i key i off
    split at h
    · rename_i o ho
      cases hf : o.frz with
      | true => rw [hf] at h; cases h
      | false =>
        rw [hf] at h
        obtain ⟨x, h1, h2⟩ := getn_foot h
        obtain ⟨cs, h3, h4⟩ := Option.bind_eq_some_iff.1 h1
        split at h4
        · rename_i hle
          refine ⟨_, h4, fun K' => ?_, fun n c hn => nolv_val hn⟩
          simp only [storeK, ho, hf, cond_false]
          rw [h2, h3, Option.bind_some, if_pos hle]
        · cases h4
    · cases h
  · rename_i id off
    split at h
    · rename_i row ho
      obtain ⟨cs, h3, h4⟩ := Option.bind_eq_some_iff.1 h
      split at h4
      · rename_i hle
        refine ⟨_, h4, fun K' => ?_, fun n c hn => hn⟩
        simp only [storeK, ho]
        rw [h3, Option.bind_some, if_pos hle]
      · cases h4
    · cases h
  · cases h
theorem isSt_spec {o : Oper} {j : Nat} (h : isSt E id j o = true) : Nat.beq (E.hb id j) 0 = true ∧ E.th id j = false ∧ E.rt id j = none ∧ o.guard = none ∧ o.dst = none ∧ ∃ t p v, o.op = .store t p v := by
  unfold isSt at h
  simp only [Bool.and_eq_true, Bool.not_eq_true', Option.isNone_iff_eq_none] at h
  refine ⟨h.1.1.1, h.1.1.2, h.1.2, ?_⟩
  have h := h.2
  split at h
  · rename_i h1 h2 h3; exact ⟨h1, h3, _, _, _, h2⟩
  · cases h
theorem stEx_spec {p o : Oper} {i : Nat} (h : stEx E id i p o = true) : Nat.beq (E.hb id i) 0 = true ∧ E.th id i = false ∧ E.tk id i = false ∧ E.rt id i = none ∧ p.guard = none ∧
    ∃ n k d, p.op = .extract (.tmp n) k ∧ p.dst = some d ∧ Operand.tmp n ∉ o.op.operands.toList ∧ Operand.tmp d ∉ o.op.operands.toList := by
  unfold stEx at h
  simp only [Bool.and_eq_true, Bool.not_eq_true', Option.isNone_iff_eq_none] at h
  refine ⟨h.1.1.1.1, h.1.1.1.2, h.1.1.2, h.1.2, ?_⟩
  have h := h.2
  split at h
  · rename_i n k d h1 h2 h3
    refine ⟨h1, n, k, d, h2, h3, fun hm => ?_, fun hm => ?_⟩
    · have := List.all_eq_true.1 h _ hm
      simp at this
    · have := List.all_eq_true.1 h _ hm
      simp at this
  · cases h
/-- a reading leaves alone what it doesn't look at -/
theorem rd_det {tk : Bool} {cf : Value → Option AV} {x : Operand} {n : Nat} {s : St} {K : SV → St → Option β} (hne : x ≠ .tmp n) (h : rd tk cf x s K = some r) :
    ∃ v s', K v s' = some r ∧ (∀ K' : SV → St → Option β, rd tk cf x s K' = K' v s') ∧ s'.env n = s.env n := by
  cases x with
  | tmp m =>
    have hm : n ≠ m := fun e => hne (by rw [e])
    simp only [rd] at h
    split at h
    · rename_i a ha
      cases tk with
      | false => exact ⟨_, _, h, fun K' => by simp only [rd, ha, cond_false], rfl⟩
      | true => exact ⟨_, _, h, fun K' => by simp only [rd, ha, cond_true], upd_ne _ _ hm⟩
    · cases h
    · rename_i h1 h2
      refine ⟨_, _, h, fun K' => ?_, rfl⟩
      simp only [rd]
  | const v =>
    obtain ⟨a, h1, h2⟩ := Option.bind_eq_some_iff.1 (show (cf v).bind (fun a => K (.val a) s) = some r from h)
    exact ⟨_, _, h2, fun K' => by simp only [rd, h1, Option.bind_some], rfl⟩
  | func f => exact ⟨_, _, h, fun K' => rfl, rfl⟩
  | global g => cases h

theorem evalOp_swapSt {x y : Oper × Nat} {s : St} {K : St → Option β} (hx : isSt E id x.2 x.1 = true) (hy : stEx E id y.2 y.1 x.1 = true)
    (h : evalOp E id ops y.2 y.1 s (fun s1 => evalOp E id ops x.2 x.1 s1 K) = some r) : evalOp E id ops x.2 x.1 s (fun s1 => evalOp E id ops y.2 y.1 s1 K) = some r := by
  obtain ⟨x1, x2, x3, x4, x5, t, p, v, x6⟩ := isSt_spec hx
  obtain ⟨y1, y2, y3, y4, y5, n, k, d, y6, y7, y8, y9⟩ := stEx_spec hy
  -- the part
  have ey : ∀ (s : St) (K' : St → Option β), evalOp E id ops y.2 y.1 s K' = bif okE E.nt E.kp (some d) then (match s.env n with
      | .val (.tup vs) => match vs[k]? with
        | some a => K' (put s (some d) (.val a.clr))
        | none => none
      | _ => none) else none := fun s K' => by
    unfold evalOp
    simp only [y5]
    unfold opR opR0 opM
    simp only [y2, cond_false, y4, y1, cond_true, opK, y6, y3, y7]
    rfl
  have ex : ∀ (s : St) (K' : St → Option β), evalOp E id ops x.2 x.1 s K' = (bif okE E.nt E.kp none then bif !(E.T t).ok then none else rd (E.tk id x.2) (constA (E.T t)) v s fun v s1 =>
      match v with
      | .val a => rd false (fun _ => none) p s1 fun p s2 => storeK E (E.T t) p a s2 fun v s' => K' s'
      | _ => none else none) := fun s K' => by
    unfold evalOp
    simp only [x4]
    unfold opR opR0 opM
    simp only [x2, cond_false, x3, x1, cond_true, opK, x6, x5]
    rfl
  have hv : v ≠ .tmp d ∧ p ≠ .tmp d ∧ v ≠ .tmp n ∧ p ≠ .tmp n := by
    rw [x6] at y8 y9
    simp only [Op.operands] at y8 y9
    refine ⟨fun e => y9 (by simp [e]), fun e => y9 (by simp [e]), fun e => y8 (by simp [e]), fun e => y8 (by simp [e])⟩
  rw [ey] at h
  cases hok : okE E.nt E.kp (some d) with
  | false => rw [hok] at h; cases h
  | true =>
  rw [hok] at h
  simp only [cond_true] at h
  split at h
  case h_2 => cases h
  rename_i vs hen
  split at h
  case h_2 => cases h
  rename_i a hk
  rw [ex] at h ⊢
  cases hok2 : okE E.nt E.kp none with
  | false => rw [hok2] at h; cases h
  | true =>
  rw [hok2] at h
  simp only [cond_true] at h ⊢
  cases htok : (E.T t).ok with
  | false => rw [htok] at h; cases h
  | true =>
  rw [htok] at h
  simp only [Bool.not_true, cond_false] at h ⊢
  rw [rd_put hv.1] at h
  obtain ⟨v1, s1, h1, g1, k1⟩ := rd_det hv.2.2.1 h
  rw [g1]
  cases v1 with
  | val a' =>
    simp only at h1 ⊢
    rw [rd_put hv.2.1] at h1
    obtain ⟨v2, s2, h2, g2, k2⟩ := rd_det hv.2.2.2 h1
    rw [g2]
    try simp only at h2
    rw [storeK_put] at h2
    obtain ⟨s3, h3, g3, k3⟩ := storeK_det h2
    rw [g3, ey, hok]
    simp only [cond_true, k3 n _ (k2.trans (k1.trans hen)), hk]
    exact h3
  | no => cases h1
  | lp _ _ _ => cases h1
  | la _ => cases h1
  | lv _ _ _ _ => cases h1

def evalL (E : Ctx) (id : Nat) (ops : Array Oper) : List (Oper × Nat) → St → (St → Option β) → Option β
  | [], s, K => K s
  | p :: rest, s, K => evalOp E id ops p.2 p.1 s fun s' => evalL E id ops rest s' K

theorem evalOps_evalL {K : St → Option β} : ∀ {l : List Oper} {i : Nat} {s : St}, evalOps E id ops i l s K = evalL E id ops (l.zipIdx i) s K
  | [], i, s => rfl
  | o :: l, i, s => by
    simp only [evalOps, List.zipIdx_cons, evalL]
    congr 1
    funext s'
    exact evalOps_evalL

/-- the one may come ahead of the other -/
def PartX (E : Ctx) (id : Nat) (ops : Array Oper) (y x : Oper × Nat) : Prop :=
  (isSt E id x.2 x.1 = true ∧ stEx E id y.2 y.1 x.1 = true) ∨ (isSt E id x.2 x.1 = false ∧ Part E id ops y x)
theorem evalL_bubble {x : Oper × Nat} {L2 : List (Oper × Nat)} {K : St → Option β} (hx : (mov E id x ∨ isNew E id x.2 x.1 = true) ∨ isSt E id x.2 x.1 = true) : ∀ {L1 : List (Oper × Nat)} {s : St}, (∀ y ∈ L1, mov E id y ∧ PartX E id ops y x) →
    evalL E id ops (L1 ++ x :: L2) s K = some r → evalL E id ops (x :: (L1 ++ L2)) s K = some r
  | [], s, _, h => h
  | y :: L1, s, hL, h => by
    obtain ⟨hy, hpx⟩ := hL y (List.mem_cons_self ..)
    simp only [List.cons_append, evalL] at h
    obtain ⟨vy, h1, fy⟩ := evalOp_foot hy h
    have h2 := evalL_bubble hx (fun z hz => hL z (List.mem_cons_of_mem _ hz)) h1
    simp only [evalL] at h2
    have h3 : evalOp E id ops y.2 y.1 s (fun s1 => evalOp E id ops x.2 x.1 s1 fun s' => evalL E id ops (L1 ++ L2) s' K) = some r := by
      rw [fy s (AgrT.refl _ _)]
      exact h2
    rcases hpx with ⟨hs1, hs2⟩ | ⟨hs1, ha, hl1, hl2⟩
    · exact evalOp_swapSt hs1 hs2 h3
    replace hx : mov E id x ∨ isNew E id x.2 x.1 = true := by
      rcases hx with hx | hx
      · exact hx
      · rw [hs1] at hx; cases hx
    by_cases hn : isNew E id x.2 x.1 = true
    · exact evalOp_swapNew hn hy ha hl1 h3
    · rcases hx with hx | hx
      · rcases hl2 with hl2 | hl2
        · exact absurd hl2 hn
        · exact evalOp_swap hx hy ha hl1 hl2 h3
      · exact absurd hx hn

/-- what the check says -/
theorem clashFree_spec (h : clashFree E id ops = true) {o : Oper} {j : Nat} (ho : ops[j]? = some o) :
    (∀ e ∈ o.after, Region.binds .any e = true → e.on < j) ∧ (lastOp ops j = true ∨ (((mov E id (o, j) ∨ isNew E id j o = true) ∨ isSt E id j o = true) ∧ ∀ p i, ops[i]? = some p → i < j → ((∃ e ∈ o.after, Region.binds .any e = true ∧ e.on = i) ∨ (mov E id (p, i) ∧ PartX E id ops (p, i) (o, j))))) := by
  unfold clashFree at h
  rw [List.all_eq_true] at h
  have hm : ∀ {p : Oper} {i : Nat}, ops[i]? = some p → (p, i) ∈ ops.toList.zipIdx := fun {p i} hp => by
    rw [List.mem_zipIdx_iff_getElem?]
    simpa using hp
  have h1 := h _ (hm ho)
  simp only [Bool.and_eq_true, Bool.or_eq_true] at h1
  obtain ⟨h4, h1⟩ := h1
  refine ⟨fun e he hb => ?_, ?_⟩
  · have := Array.all_eq_true_iff_forall_mem.1 h4 e he
    rw [hb] at this
    exact blt_lt (by simpa using this)
  · rcases h1 with h1 | ⟨h1, h5⟩
    · exact .inl h1
    · refine .inr ⟨h1, fun p i hp hij => ?_⟩
      rw [List.all_eq_true] at h5
      have := h5 _ (hm hp)
      simp only [Bool.or_eq_true, Bool.not_eq_true', Bool.and_eq_true] at this
      rcases this with h | h
      · have : Nat.blt i j = true := by simp [Nat.blt]; omega
        rw [this] at h
        cases h
      · rcases h with h | ⟨h6, h⟩
        · obtain ⟨e, he, hb⟩ := Array.any_eq_true'.1 h
          rw [Bool.and_eq_true] at hb
          exact .inl ⟨e, he, hb.1, Nat.eq_of_beq_eq_true hb.2⟩
        · refine .inr ⟨h6, ?_⟩
          cases hs : isSt E id j o with
          | true => rw [hs] at h; exact .inl ⟨hs, h⟩
          | false =>
            rw [hs] at h
            simp only [cond_false, Bool.and_eq_true, Bool.or_eq_true] at h
            exact .inr ⟨hs, h.1.1, h.1.2, h.2⟩

/-- if the last operation may be next, all others are behind -/
theorem lastOp_all {listed : Array Bool} {j : Nat} {o : Oper} (h : lastOp ops j = true) (ho : ops[j]? = some o) (hr : ∀ e ∈ o.after, Region.binds .any e = true → listed.getD e.on false = true)
    (hc : ∀ i p, ops[i]? = some p → listed.getD i false = true → ∀ e ∈ p.after, Region.binds .any e = true → listed.getD e.on false = true) : ∀ (m i : Nat), j ≤ i + m → i < j → listed.getD i false = true
  | 0, i, h1, h2 => by omega
  | m + 1, i, h1, h2 => by
    have h3 := List.all_eq_true.1 (show _ from h) i (by simpa using h2)
    obtain ⟨⟨p, k⟩, hk, h3⟩ := List.any_eq_true.1 h3
    rw [Bool.and_eq_true, Bool.and_eq_true] at h3
    have hik := blt_lt h3.1.1
    have hkj0 : k ≤ j := Nat.le_of_ble_eq_true h3.1.2
    obtain ⟨e, he, hb⟩ := Array.any_eq_true'.1 h3.2
    rw [Bool.and_eq_true] at hb
    have hei := Nat.eq_of_beq_eq_true hb.2
    have hp : ops[k]? = some p := by
      rw [List.mem_zipIdx_iff_getElem?] at hk
      simpa using hk
    rcases Nat.lt_or_ge k j with hkj | hkj
    · have hl := lastOp_all h ho hr hc m k (by omega) hkj
      have := hc k p hp hl e he hb.1
      rwa [hei] at this
    · have hkj' : k = j := by omega
      subst hkj'
      rw [ho] at hp
      cases hp
      have := hr e he hb.1
      rwa [hei] at this

theorem drawn_ok (hT : TOk P E.T) (hC : CallOk P GE.ng GE.G0 E.C) (hU : CallUOk P GE.ng GE.G0 E.cu ∧ (GE.v0 ≠ none → E.kp = true)) (hcf : clashFree E id ops = true) {K : St → Option β} {D : Nat → Prop} {Pr0 : Nat → Nat → Prop} {w0 : World} {Q : Exit → Act → World → Prop}
    (hQ : ∀ s1 a' w', K s1 = some r → At GE D Pr0 w0 E.nt s1 a' w' → Q .normal a' w') : ∀ (fuel : Nat) (listed : Array Bool) (rem : List (Oper × Nat)) (s : St) (a : Act) (w : World), rem.length ≤ fuel → listed.size = ops.size →
    (∀ i p, ops[i]? = some p → listed.getD i false = true → ∀ e ∈ p.after, Region.binds .any e = true → listed.getD e.on false = true) →
    rem.Pairwise (fun p q => p.2 < q.2) → (∀ p, p ∈ rem ↔ (ops[p.2]? = some p.1 ∧ listed.getD p.2 true = false)) → evalL E id ops rem s K = some r → At GE D Pr0 w0 E.nt s a w → wpAny P .any ops Q fuel listed a w
  | 0, listed, rem, s, a, w, hl, _, _, _, hm, h, hat => by
    have hr : rem = [] := List.eq_nil_of_length_eq_zero (by omega)
    subst hr
    refine ⟨?_, hQ s a w h hat⟩
    cases hrd : Region.ready .any ops listed with
    | nil => rfl
    | cons j js =>
      have hj : j ∈ Region.ready .any ops listed := by rw [hrd]; exact List.mem_cons_self ..
      obtain ⟨h1, o, h2, _⟩ := mem_ready.1 hj
      have := (hm (o, j)).2 ⟨h2, h1⟩
      cases this
  | fuel + 1, listed, rem, s, a, w, hl, hsz, hcl, hpw, hm, h, hat => by
    refine ⟨fun hrd => ?_, fun i hi => ?_⟩
    · cases rem with
      | nil => exact hQ s a w h hat
      | cons p rem =>
        exfalso
        obtain ⟨hp1, hp2⟩ := (hm p).1 (List.mem_cons_self ..)
        obtain ⟨hed, _⟩ := clashFree_spec hcf hp1
        have : p.2 ∈ Region.ready .any ops listed := mem_ready.2 ⟨hp2, p.1, hp1, fun e he hb => by
          have hlt := hed e he hb
          have hpl : p.2 < ops.size := (Array.getElem?_eq_some_iff.1 hp1).1
          have hel : e.on < listed.size := by omega
          cases hq : listed.getD e.on false with
          | true => rfl
          | false =>
            exfalso
            have hq' : listed.getD e.on true = false := by simpa [hel] using hq
            obtain ⟨q, hq1⟩ : ∃ q, ops[e.on]? = some q := ⟨_, Array.getElem?_eq_getElem (by omega)⟩
            have hmem := (hm (q, e.on)).2 ⟨hq1, hq'⟩
            rcases List.mem_cons.1 hmem with hmem | hmem
            · rw [← hmem] at hlt
              exact absurd hlt (Nat.lt_irrefl _)
            · have := (List.pairwise_cons.1 hpw).1 _ hmem
              simp only at this
              omega⟩
        rw [hrd] at this
        cases this
    · obtain ⟨h1, o, h2, h3⟩ := mem_ready.1 hi
      have hmem := (hm (o, i)).2 ⟨h2, h1⟩
      obtain ⟨L1, L2, rfl⟩ := List.append_of_mem hmem
      have hpw' := List.pairwise_append.1 hpw
      have hb : evalL E id ops ((o, i) :: (L1 ++ L2)) s K = some r := by
        rcases (clashFree_spec hcf h2).2 with hlast | ⟨hq, hap⟩
        · have hL1 : L1 = [] := by
            cases hL : L1 with
            | nil => rfl
            | cons y ys =>
              exfalso
              have hyL : y ∈ L1 := by rw [hL]; exact List.mem_cons_self ..
              obtain ⟨y1, y2⟩ := (hm y).1 (List.mem_append_left _ hyL)
              have hlt := hpw'.2.2 y hyL _ (List.mem_cons_self ..)
              have h4 := lastOp_all hlast h2 h3 hcl i y.2 (by omega) hlt
              have hyl : y.2 < listed.size := by rw [hsz]; exact (Array.getElem?_eq_some_iff.1 y1).1
              simp [hyl] at h4 y2
              rw [y2] at h4
              cases h4
          subst hL1
          exact h
        · refine evalL_bubble hq (fun y hy => ?_) h
          obtain ⟨y1, y2⟩ := (hm y).1 (List.mem_append_left _ hy)
          have hlt := hpw'.2.2 y hy _ (List.mem_cons_self ..)
          rcases hap y.1 y.2 y1 hlt with ⟨e, he, hb, hon⟩ | h
          · have h4 := h3 e he hb
            rw [hon] at h4
            have hyl : y.2 < listed.size := by rw [hsz]; exact (Array.getElem?_eq_some_iff.1 y1).1
            simp [hyl] at h4 y2
            rw [y2] at h4
            cases h4
          · exact h
      simp only [evalL] at hb
      obtain ⟨s1, g1, g2⟩ := evalOp_ok (GE := GE) hT hC hU hb
      unfold wpOp
      simp only [h2]
      refine g2 D Pr0 w0 a w hat _ Q fun a' w' hat' => ?_
      refine drawn_ok hT hC hU hcf hQ fuel _ (L1 ++ L2) s1 a' w' (by simp at hl ⊢; omega) (by simpa using hsz) (fun k p hk hlk e he hbe => ?_) ?_ (fun p => ?_) g1 hat'
      · have hil : i < listed.size := by rw [hsz]; exact (Array.getElem?_eq_some_iff.1 h2).1
        have hset : ∀ m, listed.getD m false = true → (listed.setIfInBounds i true).getD m false = true := fun m hm => by
          by_cases hmi : i = m
          · subst hmi; simp [hil]
          · rw [getD_set_ne false hmi]; exact hm
        by_cases hki : i = k
        · subst hki
          rw [h2] at hk
          cases hk
          exact hset _ (h3 e he hbe)
        · rw [getD_set_ne false hki] at hlk
          exact hset _ (hcl k p hk hlk e he hbe)
      · rw [List.pairwise_append]
        exact ⟨hpw'.1, (List.pairwise_cons.1 hpw'.2.1).2, fun y hy z hz => hpw'.2.2 y hy z (List.mem_cons_of_mem _ hz)⟩
      · have hil : i < listed.size := by rw [hsz]; exact (Array.getElem?_eq_some_iff.1 h2).1
        have hne : p ∈ L1 ++ L2 → p.2 ≠ i := fun hp e => by
          rcases List.mem_append.1 hp with hp | hp
          · have := hpw'.2.2 p hp _ (List.mem_cons_self ..)
            simp only at this
            omega
          · have := (List.pairwise_cons.1 hpw'.2.1).1 p hp
            simp only at this
            omega
        constructor
        · intro hp
          have hn := hne hp
          have := (hm p).1 (by
            rcases List.mem_append.1 hp with hp | hp
            · exact List.mem_append_left _ hp
            · exact List.mem_append_right _ (List.mem_cons_of_mem _ hp))
          exact ⟨this.1, by rw [getD_set_ne true (fun e => hn e.symm)]; exact this.2⟩
        · rintro ⟨p1, p2⟩
          have hn : i ≠ p.2 := fun e => by
            subst e
            simp [hil] at p2
          rw [getD_set_ne true hn] at p2
          have := (hm p).2 ⟨p1, p2⟩
          rcases List.mem_append.1 this with h | h
          · exact List.mem_append_left _ h
          · rcases List.mem_cons.1 h with h | h
            · exact absurd (by rw [h]) hn
            · exact List.mem_append_right _ h

end
end Go.Fx
