/- Plain tools: the shallow functions' words, loops. -/
import Derived.Test.YtjojcbmkcnkjoaaGreatDoorGTyV
set_option linter.all false
namespace Go.Sh
open Go.Fx
theorem bnd_some {α β : Type} (v : α) (K : α → Option β) : bnd (some v) K = K v := rfl
theorem cnd_tt {β : Type} (x y : Option β) : cnd true x y = x := rfl
theorem cnd_ff {β : Type} (x y : Option β) : cnd false x y = y := rfl
theorem cnd_if {β : Type} (b : Bool) (x y : Option β) : cnd b x y = if b = true then x else y := by cases b <;> rfl
theorem ifA_pos {β : Type} {c : Prop} [Decidable c] (h : c) (x : Option β) : ifA c x = x := if_pos h
@[simp] theorem ifA_tt {β : Type} [Decidable True] (x : Option β) : ifA True x = x := if_pos trivial
@[simp] theorem ifA_ff {β : Type} [Decidable False] (x : Option β) : ifA False x = none := if_neg id
def getZ {α β : Type} (l : List α) (n : Int) (K : α → Option β) : Option β :=
  if 0 ≤ n then (match l[n.toNat]? with | some x => K x | none => none) else none
theorem getZ_at {α β : Type} {l : List α} {k : Nat} {x : α} (h : l[k]? = some x) (K : α → Option β) : getZ l (k : Int) K = K x := by
  unfold getZ
  rw [if_pos (by omega), Int.toNat_natCast, h]
theorem getZ_zero {α β : Type} (x : α) (l : List α) (K : α → Option β) : getZ (x :: l) 0 K = K x := rfl
def getN {α β : Type} (l : List α) (n : Nat) (K : α → Option β) : Option β := match l[n]? with | some x => K x | none => none
theorem getN_at {α β : Type} {l : List α} {k : Nat} {x : α} (h : l[k]? = some x) (K : α → Option β) : getN l k K = K x := by
  unfold getN; rw [h]
class Lw (R : RR) : Prop where
  ge : ∀ (x : R.τ) {β : Type} (K : R.τ → Option β), R.get (R.enc x) K = K x
instance : Lw iR := ⟨fun _ _ _ => rfl⟩
instance : Lw yR := ⟨fun _ _ _ => rfl⟩
instance : Lw bR := ⟨fun _ _ _ => rfl⟩
instance : Lw sR := ⟨fun _ _ _ => rfl⟩
theorem rws_enc (R : RR) [Lw R] {β : Type} : ∀ (l : List R.τ) (K : List R.τ → Option β), rws R (l.map R.enc) K = K l
  | [], K => rfl
  | x :: l, K => by
    show R.get (R.enc x) (fun y => rws R (l.map R.enc) fun ys => K (y :: ys)) = _
    rw [Lw.ge, rws_enc R l]
theorem rws_app (R : RR) {β : Type} : ∀ (xs ys : List (List AV)) (K : List R.τ → Option β), rws R (xs ++ ys) K = rws R xs fun l => rws R ys fun l' => K (l ++ l')
  | [], ys, K => rfl
  | x :: xs, ys, K => by
    show R.get x (fun y => rws R (xs ++ ys) fun l => K (y :: l)) = R.get x fun y => rws R xs fun l => rws R ys fun l' => K (y :: l ++ l')
    congr 1
    funext y
    rw [rws_app R xs ys]
    rfl
theorem rws_rep (R : RR) [Lw R] {β : Type} (x : R.τ) (n : Nat) (K : List R.τ → Option β) : rws R (List.replicate n (R.enc x)) K = K (List.replicate n x) := by
  rw [← List.map_replicate, rws_enc]
theorem rws_set (R : RR) [Lw R] {β : Type} (l : List R.τ) (i : Nat) (x : R.τ) (K : List R.τ → Option β) : rws R ((l.map R.enc).set i (R.enc x)) K = K (l.set i x) := by
  rw [← List.map_set, rws_enc]
theorem getn_enc (R : RR) [Lw R] {β : Type} (l : List R.τ) (i : Nat) (K : R.τ → Option β) : getn R (l.map R.enc) i K = getN l i K := by
  unfold getn getN
  rw [List.getElem?_map]
  cases l[i]? with
  | none => rfl
  | some x => exact Lw.ge x K
theorem geti_enc (R : RR) [Lw R] {β : Type} (l : List R.τ) (n : Int) (K : R.τ → Option β) : geti R (l.map R.enc) n K = getZ l n K := by
  cases n with
  | ofNat m =>
    show getn R (l.map R.enc) m K = _
    rw [getn_enc]
    unfold getN getZ
    rw [if_pos (show (0 : Int) ≤ Int.ofNat m from Int.natCast_nonneg m)]
    rfl
  | negSucc m => rfl
theorem rws_map (R : RR) {σ : Type} (e : σ → List AV) (f : σ → R.τ) (h : ∀ (x : σ) {γ : Type} (K : R.τ → Option γ), R.get (e x) K = K (f x)) {β : Type} : ∀ (l : List σ) (K : List R.τ → Option β), rws R (l.map e) K = K (l.map f)
  | [], K => rfl
  | x :: l, K => by
    show R.get (e x) (fun y => rws R (l.map e) fun ys => K (y :: ys)) = _
    rw [h, rws_map R e f h l]
    rfl
theorem rws_mset (R : RR) {σ : Type} (e : σ → List AV) (f : σ → R.τ) (h : ∀ (x : σ) {γ : Type} (K : R.τ → Option γ), R.get (e x) K = K (f x)) (row : List AV) (y : σ) (hy : ∀ {γ : Type} (K : R.τ → Option γ), R.get row K = K (f y)) {β : Type} :
    ∀ (l : List σ) (i : Nat) (K : List R.τ → Option β), rws R ((l.map e).set i row) K = K ((l.set i y).map f)
  | [], i, K => rfl
  | x :: l, 0, K => by
    show R.get row (fun y => rws R (l.map e) fun ys => K (y :: ys)) = _
    rw [hy, rws_map R e f h l]
    rfl
  | x :: l, i + 1, K => by
    show R.get (e x) (fun y => rws R ((l.map e).set i row) fun ys => K (y :: ys)) = _
    rw [h, rws_mset R e f h row y hy l i]
    rfl
theorem getn_map (R : RR) {σ : Type} (e : σ → List AV) (f : σ → R.τ) (h : ∀ (x : σ) {γ : Type} (K : R.τ → Option γ), R.get (e x) K = K (f x)) {β : Type} (l : List σ) (i : Nat) (K : R.τ → Option β) : getn R (l.map e) i K = getN l i fun x => K (f x) := by
  unfold getn getN
  rw [List.getElem?_map]
  cases l[i]? with
  | none => rfl
  | some x => exact h x K
theorem geti_map (R : RR) {σ : Type} (e : σ → List AV) (f : σ → R.τ) (h : ∀ (x : σ) {γ : Type} (K : R.τ → Option γ), R.get (e x) K = K (f x)) {β : Type} (l : List σ) (n : Int) (K : R.τ → Option β) : geti R (l.map e) n K = getZ l n fun x => K (f x) := by
  cases n with
  | ofNat m =>
    show getn R (l.map e) m K = _
    rw [getn_map R e f h]
    unfold getN getZ
    rw [if_pos (show (0 : Int) ≤ Int.ofNat m from Int.natCast_nonneg m)]
    rfl
  | negSucc m => rfl
@[simp] theorem okO_shr : okO .shr .shr = true := rfl
@[simp] theorem okO_sho : okO .shr .own = true := rfl
@[simp] theorem okO_own : okO .own .own = true := rfl
@[simp] theorem bothK_self {β : Type} (x : Option β) : bothK x x = x := by unfold bothK; simp
@[simp] theorem okO_unq : okO .unq .unq = true := rfl
theorem toUss_map {σ : Type} {e e' : σ → List AV} (h : ∀ x, toUs (e x) = e' x) : ∀ l : List σ, toUss (l.map e) = l.map e'
  | [] => rfl
  | x :: l => by simp only [List.map_cons, toUss, h, toUss_map h l]
theorem borss_map {σ : Type} {e e' : σ → List AV} (h : ∀ x, bors (e x) = e' x) : ∀ l : List σ, borss (l.map e) = l.map e'
  | [] => rfl
  | x :: l => by simp only [List.map_cons, borss, h, borss_map h l]
theorem okUss_map {σ : Type} {e : σ → List AV} (h : ∀ x, okUs (e x) = true) : ∀ l : List σ, okUss (l.map e) = true
  | [] => rfl
  | x :: l => by simp only [List.map_cons, okUss, h, okUss_map h l, Bool.and_self]
@[simp] theorem okU_own (k : Nat) (xs : List (List AV)) : AV.okU (.slc .own k xs) = okUss xs := rfl
theorem iter_succ {V β : Type} (F : (V → Option β) → V → Option β) (n : Nat) (v : V) : iter F (n + 1) v = F (iter F n) v := rfl
theorem iter_ind {V β : Type} {F : (V → Option β) → V → Option β} {R : V → Option β} (μ : V → Nat) (inv : V → Prop)
    (step : ∀ rec v, inv v → (∀ v', inv v' → μ v' < μ v → rec v' = R v') → F rec v = R v) : ∀ n v, inv v → μ v < n → iter F n v = R v
  | 0, v, _, h => by omega
  | n + 1, v, hi, h => by
    rw [iter_succ]
    exact step _ v hi fun v' hi' hlt => iter_ind μ inv step n v' hi' (by omega)
theorem iter_list {α A V β : Type} {F : (V → Option β) → V → Option β} (l : List α) (st : Nat → A → V) (G : List α → Nat → A → Option β)
    (h0 : ∀ rec acc, F rec (st l.length acc) = G [] l.length acc)
    (h1 : ∀ rec k x acc, l[k]? = some x → k < l.length → (∀ acc', rec (st (k + 1) acc') = G (l.drop (k + 1)) (k + 1) acc') → F rec (st k acc) = G (x :: l.drop (k + 1)) k acc) :
    ∀ n k acc, k ≤ l.length → l.length - k < n → iter F n (st k acc) = G (l.drop k) k acc
  | 0, k, acc, _, h => by omega
  | n + 1, k, acc, hk, h => by
    rw [iter_succ]
    rcases Nat.lt_or_ge k l.length with hlt | hge
    · have hx : l[k]? = some l[k] := List.getElem?_eq_getElem hlt
      rw [List.drop_eq_getElem_cons hlt]
      exact h1 _ k _ acc hx hlt fun acc' => iter_list l st G h0 h1 n (k + 1) acc' hlt (by omega)
    · have : k = l.length := by omega
      subst this
      rw [List.drop_length]
      exact h0 _ acc
theorem NN_big {n : Nat} (h : n ≤ 4611686018427387903) : n < NN := by rw [NN_eq]; omega
theorem iter_list0 {α A V β : Type} {F : (V → Option β) → V → Option β} (l : List α) (hl : l.length ≤ 1152921504606846976) (st : Nat → A → V) (acc : A) (G : List α → Nat → A → Option β) {v : V} (hv : v = st 0 acc)
    (h0 : ∀ rec acc, F rec (st l.length acc) = G [] l.length acc)
    (h1 : ∀ rec k x acc, l[k]? = some x → k < l.length → (∀ acc', rec (st (k + 1) acc') = G (l.drop (k + 1)) (k + 1) acc') → F rec (st k acc) = G (x :: l.drop (k + 1)) k acc) :
    iter F NN v = G l 0 acc := by
  rw [hv]
  exact iter_list l st G h0 h1 NN 0 acc (Nat.zero_le _) (NN_big (by omega))
theorem iter_listI {α A V β : Type} {F : (V → Option β) → V → Option β} (l : List α) (st : Nat → A → V) (J : Nat → A → Prop) (G : List α → Nat → A → Option β)
    (h0 : ∀ rec acc, J l.length acc → F rec (st l.length acc) = G [] l.length acc)
    (h1 : ∀ rec k x acc, J k acc → l[k]? = some x → k < l.length → (∀ acc', J (k + 1) acc' → rec (st (k + 1) acc') = G (l.drop (k + 1)) (k + 1) acc') → F rec (st k acc) = G (x :: l.drop (k + 1)) k acc) :
    ∀ n k acc, J k acc → k ≤ l.length → l.length - k < n → iter F n (st k acc) = G (l.drop k) k acc
  | 0, k, acc, _, _, h => by omega
  | n + 1, k, acc, hJ, hk, h => by
    rw [iter_succ]
    rcases Nat.lt_or_ge k l.length with hlt | hge
    · have hx : l[k]? = some l[k] := List.getElem?_eq_getElem hlt
      rw [List.drop_eq_getElem_cons hlt]
      exact h1 _ k _ acc hJ hx hlt fun acc' hJ' => iter_listI l st J G h0 h1 n (k + 1) acc' hJ' hlt (by omega)
    · have : k = l.length := by omega
      subst this
      rw [List.drop_length]
      exact h0 _ acc hJ
theorem iter_listJ {α A V β : Type} {F : (V → Option β) → V → Option β} (l : List α) (hl : l.length ≤ 1152921504606846976) (st : Nat → A → V) (acc : A) (J : Nat → A → Prop) (hJ : J 0 acc) (G : List α → Nat → A → Option β) {v : V} (hv : v = st 0 acc)
    (h0 : ∀ rec acc, J l.length acc → F rec (st l.length acc) = G [] l.length acc)
    (h1 : ∀ rec k x acc, J k acc → l[k]? = some x → k < l.length → (∀ acc', J (k + 1) acc' → rec (st (k + 1) acc') = G (l.drop (k + 1)) (k + 1) acc') → F rec (st k acc) = G (x :: l.drop (k + 1)) k acc) :
    iter F NN v = G l 0 acc := by
  rw [hv]
  exact iter_listI l st J G h0 h1 NN 0 acc hJ (Nat.zero_le _) (NN_big (by omega))
def cnt {α : Type} (p : α → Bool) (l : List α) : Int := ((l.filter p).length : Nat)
theorem count_loop {α V β : Type} (l : List α) (p : α → Bool) (hl : l.length ≤ 1099511627776) (st : Nat → Int → V) (K : Int → Option β) {F : (V → Option β) → V → Option β} {v : V} (hv : v = st 0 0)
    (h0 : ∀ rec n, F rec (st l.length n) = K n)
    (h1 : ∀ rec k x (n : Nat), l[k]? = some x → k < l.length → n ≤ k → F rec (st k n) = if p x = true then rec (st (k + 1) ((n + 1 : Nat) : Int)) else rec (st (k + 1) n)) : iter F NN v = K (cnt p l) := by
  refine (iter_listJ l (by omega) (fun k (n : Nat) => st k n) 0 (fun k n => n ≤ k) (Nat.le_refl _) (fun l _ n => K ((n + (l.filter p).length : Nat) : Int)) (by simpa using hv) ?_ ?_).trans ?_
  · intro rec n _
    rw [h0]; simp
  · intro rec k x n hn hx hk hr
    rw [h1 rec k x n hx hk hn]
    cases hp : p x with
    | true =>
      rw [if_pos rfl, hr (n + 1) (by omega), List.filter_cons_of_pos hp, List.length_cons]
      congr 2; omega
    | false => rw [if_neg (by simp), hr n (by omega), List.filter_cons_of_neg (by simp [hp])]
  · simp [cnt]
theorem W_id {n : Int} (h : -9223372036854775808 ≤ n) (h' : n ≤ 9223372036854775807) : W n = n := by
  show IntKind.i64.wrap n = n
  have e : IntKind.i64.wrap n = if n % 18446744073709551616 ≥ 9223372036854775808 then n % 18446744073709551616 - 18446744073709551616 else n % 18446744073709551616 := by
    unfold IntKind.wrap
    rw [show IntKind.i64.signed = true from rfl, show IntKind.i64.bits = 64 from rfl]
    simp only [Bool.true_and, decide_eq_true_eq]
    rfl
  rw [e]
  split <;> omega
theorem fill_set {α : Type} {a : List α} {x z : α} {k : Nat} (h : a[k]? = some x) : (a.take k ++ List.replicate (a.length - k) z).set k x = a.take (k + 1) ++ List.replicate (a.length - (k + 1)) z := by
  have hk : k < a.length := (List.getElem?_eq_some_iff.1 h).1
  have hx : a[k] = x := (List.getElem?_eq_some_iff.1 h).2
  have hl : (a.take k).length = k := by rw [List.length_take]; omega
  rw [List.set_append_right _ _ (by omega), hl, Nat.sub_self]
  obtain ⟨m, hm⟩ : ∃ m, a.length - k = m + 1 := ⟨a.length - k - 1, by omega⟩
  rw [hm, show a.length - (k + 1) = m by omega, List.replicate_succ, List.set_cons_zero, List.take_succ_eq_append_getElem hk, hx, List.append_assoc]
  rfl
end Go.Sh
