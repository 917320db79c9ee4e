/- Plain facts: what the functions compute. -/
import Derived.Test.YtkbhcieejpbjpaaHpS
set_option linter.all false
namespace Go.Sh
open Go.Fx
theorem sl1In_v (x a b : Int) : S_sl1In x a b = some (decide (a ≤ x) && decide (x ≤ b)) := by
  unfold S_sl1In
  by_cases h : a ≤ x <;> simp [h, cnd_if]
theorem iInRange_v (x a b : Int) : S_iInRange x a b = some (decide (a ≤ x) && decide (x ≤ b)) := by
  unfold S_iInRange
  by_cases h : a ≤ x <;> simp [h, cnd_if]
theorem W_n1 {n : Nat} (h : n ≤ 9223372036854775806) : W ((n : Int) + 1) = (n : Int) + 1 := W_id (by omega) (by omega)
def inR (n a b : Int) : Bool := decide (a ≤ n) && decide (n ≤ b)
def isPath (p : Path) : Bool := inR p.id 1 20 && inR p.kind 1 3 && inR p.src 0 3 && inR p.dst 0 3 && ((p.src == p.dst) == (p.kind == 2))
theorem sIsPath_v (p : Path) : S_sIsPath p = some (isPath p) := by
  unfold S_sIsPath isPath inR
  simp only [sl1In_v, bnd_some]
  cases (decide (1 ≤ p.id) && decide (p.id ≤ 20)) <;> cases (decide (1 ≤ p.kind) && decide (p.kind ≤ 3)) <;> cases (decide (0 ≤ p.src) && decide (p.src ≤ 3)) <;> cases (decide (0 ≤ p.dst) && decide (p.dst ≤ 3)) <;> simp
theorem iIsPath_v (p : Path) : S_iIsPath p = some (isPath p) := by
  unfold S_iIsPath isPath inR
  simp only [iInRange_v, bnd_some]
  cases (decide (1 ≤ p.id) && decide (p.id ≤ 20)) <;> cases (decide (1 ≤ p.kind) && decide (p.kind ≤ 3)) <;> cases (decide (0 ≤ p.src) && decide (p.src ≤ 3)) <;> cases (decide (0 ≤ p.dst) && decide (p.dst ≤ 3)) <;> simp
def goP : Option Int → List Path → Bool
  | _, [] => true
  | none, p :: r => isPath p && goP (some p.id) r
  | some i, p :: r => isPath p && decide (i < p.id) && goP (some p.id) r
def arePaths (l : List Path) : Bool := decide (l.length ≤ 12) && goP none l
def prevId (l : List Path) (k : Nat) : Option Int := if k = 0 then none else (l[k - 1]?).map (·.id)
theorem prevId_succ {l : List Path} {k : Nat} {x : Path} (h : l[k]? = some x) : prevId l (k + 1) = some x.id := by
  unfold prevId
  simp [h]
theorem sArePaths_v (l : List Path) (h : Sm l) : S_sArePaths l = some (arePaths l) := by
  unfold Sm at h
  unfold S_sArePaths
  simp
  refine (iter_list0 l (by omega) (fun k (_ : Unit) => (l, (k : Int))) () (fun s k _ => some (goP (prevId l k) s && decide (l.length ≤ 12))) rfl ?_ ?_).trans ?_
  · intro rec _
    simp [goP]
    omega
  · intro rec k x _ hx hk hr
    have hr' := hr ()
    simp [hk, getZ_at hx, sIsPath_v, W_n1 (show k ≤ 9223372036854775806 by omega)] at hr' ⊢
    cases hp : isPath x with
    | false => cases hq : prevId l k <;> simp [goP, hp]
    | true =>
      simp
      by_cases h0 : k = 0
      · subst h0
        simp [prevId, hx] at hr'
        simp [hr', prevId, goP, hp, hx]
      · have hz : l[k - 1]? = some l[k - 1] := List.getElem?_eq_getElem (by omega)
        have hk1 : W ((k : Int) - 1) = ((k - 1 : Nat) : Int) := by rw [W_id (by omega) (by omega)]; omega
        simp [show 0 < k by omega, hk1, getZ_at hz, hr', prevId_succ hx]
        rw [show prevId l k = some (l[k - 1]).id by unfold prevId; simp [h0, hz]]
        simp [goP, hp, cnd_if]
        by_cases h1 : x.id ≤ (l[k - 1]).id
        · simp [h1, show ¬ ((l[k - 1]).id < x.id) by omega]
        · simp [h1, show (l[k - 1]).id < x.id by omega]
  · simp [prevId, arePaths, Bool.and_comm]
theorem iArePaths_v (l : List Path) (h : Sm l) : S_iArePaths l = some (arePaths l) := by
  unfold Sm at h
  unfold S_iArePaths
  simp
  by_cases h12 : (12 : Int) < (l.length : Int)
  · simp [h12, arePaths, show ¬ (l.length ≤ 12) by omega]
  simp [h12]
  refine (iter_list0 l (by omega) (fun k (_ : Unit) => (l, l, (l.length : Int), (k : Int))) () (fun s k _ => some (goP (prevId l k) s)) rfl ?_ ?_).trans ?_
  · intro rec _
    simp [goP]
  · intro rec k x _ hx hk hr
    have hr' := hr ()
    simp [hk, getZ_at hx, iIsPath_v, W_n1 (show k ≤ 9223372036854775806 by omega)] at hr' ⊢
    cases hp : isPath x with
    | false => cases hq : prevId l k <;> simp [goP, hp]
    | true =>
      simp
      by_cases h0 : k = 0
      · subst h0
        simp [prevId, hx] at hr'
        simp [hr', prevId, goP, hp, hx]
      · have hz : l[k - 1]? = some l[k - 1] := List.getElem?_eq_getElem (by omega)
        have hk1 : W ((k : Int) - 1) = ((k - 1 : Nat) : Int) := by rw [W_id (by omega) (by omega)]; omega
        simp [show 0 < k by omega, hk1, getZ_at hz, hr', prevId_succ hx]
        rw [show prevId l k = some (l[k - 1]).id by unfold prevId; simp [h0, hz]]
        simp [goP, hp, cnd_if]
        by_cases h1 : x.id ≤ (l[k - 1]).id
        · simp [h1, show ¬ ((l[k - 1]).id < x.id) by omega]
        · simp [h1, show (l[k - 1]).id < x.id by omega]
  · simp [prevId, arePaths, show l.length ≤ 12 by omega]
theorem all_loop {α V β : Type} (l : List α) (p : α → Bool) (hl : l.length ≤ 1099511627776) (st : Nat → V) (K no : Option β) {F : (V → Option β) → V → Option β} {v : V} (hv : v = st 0)
    (h0 : ∀ rec, F rec (st l.length) = K)
    (h1 : ∀ rec k x, l[k]? = some x → k < l.length → F rec (st k) = if p x = true then rec (st (k + 1)) else no) : iter F NN v = if l.all p = true then K else no := by
  refine (iter_list0 l (by omega) (fun k (_ : Unit) => st k) () (fun s _ _ => if s.all p = true then K else no) hv ?_ ?_).trans rfl
  · intro rec _
    rw [h0]; simp
  · intro rec k x _ hx hk hr
    rw [h1 rec k x hx hk, List.all_cons]
    cases p x with
    | true => simpa using hr ()
    | false => simp
theorem mem_at {α : Type} {l : List α} {k : Nat} {x : α} (h : l[k]? = some x) : x ∈ l := List.mem_of_getElem? h
@[simp] theorem bnd_id {α : Type} (x : Option α) : bnd x (fun r => some r) = x := by cases x <;> rfl
theorem mapG_loop {α γ β V : Type} (l : List α) (f : α → γ) (hl : l.length ≤ 1099511627776) (st : Nat → List γ → V) (K : List γ → Option β) {F : (V → Option β) → V → Option β} {v : V} (hv : v = st 0 [])
    (h0 : ∀ rec acc, acc.length = l.length → F rec (st l.length acc) = K acc)
    (h1 : ∀ rec k x acc, l[k]? = some x → k < l.length → acc.length = k → F rec (st k acc) = rec (st (k + 1) (acc ++ [f x]))) : iter F NN v = K (l.map f) := by
  refine (iter_listJ l (by omega) st [] (fun k acc => acc.length = k) rfl (fun s _ acc => K (acc ++ s.map f)) hv ?_ ?_).trans (by simp)
  · intro rec acc h
    rw [h0 rec acc h]
    simp
  · intro rec k x acc h hx hk hr
    rw [h1 rec k x acc hx hk h, hr _ (by simp [h])]
    simp
theorem ifA_t {β : Type} (x : Option β) : ifA (true = true) x = x := rfl
theorem NN_64 : ∃ n, NN = n + 64 := ⟨NN - 64, by rw [NN_eq]⟩
def crossI (a b c d : Int) : Bool := if a = b ∨ a = c ∨ a = d ∨ b = c ∨ b = d ∨ c = d then false else (decide (Int.tmod (c - a + 8) 8 < Int.tmod (b - a + 8) 8) != decide (Int.tmod (d - a + 8) 8 < Int.tmod (b - a + 8) 8))
theorem iInterleave_v {a b c d : Int} (ha : 0 ≤ a ∧ a ≤ 7) (hb : 0 ≤ b ∧ b ≤ 7) (hc : 0 ≤ c ∧ c ≤ 7) (hd : 0 ≤ d ∧ d ≤ 7) : S_iInterleave a b c d = some (crossI a b c d) := by
  unfold S_iInterleave crossI
  obtain ⟨n, hn⟩ := NN_64
  rw [hn]
  have e : ∀ K : List Int → Option Bool, rws iR [[I a], [I b], [I c], [I d]] K = K [a, b, c, d] := fun _ => rfl
  have w1 : W (c - a) = c - a := W_id (by omega) (by omega)
  have w2 : W (b - a) = b - a := W_id (by omega) (by omega)
  have w3 : W (d - a) = d - a := W_id (by omega) (by omega)
  have w4 : W (c - a + 8) = c - a + 8 := W_id (by omega) (by omega)
  have w5 : W (b - a + 8) = b - a + 8 := W_id (by omega) (by omega)
  have w6 : W (d - a + 8) = d - a + 8 := W_id (by omega) (by omega)
  simp only [e, geti_i, len_i, rws_i]
  simp [iter, iInRange_v, getZ, W_id, ha, hb, hc, hd, w1, w2, w3, w4, w5, w6, cnd_if]
  grind
def arm (n : Int) : Prop := n = 0 ∨ n = 1 ∨ n = 2 ∨ n = 3
set_option maxRecDepth 100000 in
theorem sInterleave_v {a b c d : Int} (ha : arm a) (hb : arm b) (hc : arm c) (hd : arm d) : S_sInterleave (2 * a) (2 * b + 1) (2 * c) (2 * d + 1) = some (crossI (2 * a) (2 * b + 1) (2 * c) (2 * d + 1)) := by
  unfold S_sInterleave
  obtain ⟨n, hn⟩ := NN_64
  rw [hn]
  rcases ha with rfl | rfl | rfl | rfl <;> rcases hb with rfl | rfl | rfl | rfl <;> rcases hc with rfl | rfl | rfl | rfl <;> rcases hd with rfl | rfl | rfl | rfl <;> rfl
def conflict (a b : Path) : Bool :=
  if isPath a = false ∨ isPath b = false then false
  else if a.kind = 2 ∧ b.kind = 2 then false
  else if a.kind = 2 then b.src == a.src || b.dst == a.src
  else if b.kind = 2 then a.src == b.src || a.dst == b.src
  else if a.src = b.src then false
  else if a.dst = b.dst then true
  else crossI (2 * a.src) (2 * a.dst + 1) (2 * b.src) (2 * b.dst + 1)
theorem arm_src {p : Path} (h : isPath p = true) : arm p.src := by
  simp [isPath, inR] at h
  unfold arm; omega
theorem arm_dst {p : Path} (h : isPath p = true) : arm p.dst := by
  simp [isPath, inR] at h
  unfold arm; omega
theorem arm_rg {n : Int} (h : arm n) : 0 ≤ n ∧ n ≤ 3 := by unfold arm at h; omega
theorem sInPlace_v {n : Int} (h : arm n) : S_sInPlace n = some (2 * n) := by rcases h with rfl | rfl | rfl | rfl <;> rfl
theorem sOutPlace_v {n : Int} (h : arm n) : S_sOutPlace n = some (2 * n + 1) := by rcases h with rfl | rfl | rfl | rfl <;> rfl
theorem iInPlace_v {n : Int} (h : arm n) : S_iInPlace n = some (2 * n) := by rcases h with rfl | rfl | rfl | rfl <;> rfl
theorem iOutPlace_v {n : Int} (h : arm n) : S_iOutPlace n = some (2 * n + 1) := by rcases h with rfl | rfl | rfl | rfl <;> rfl
theorem sConflict_v (a b : Path) : S_sConflict a b = some (conflict a b) := by
  unfold S_sConflict conflict
  simp only [sIsPath_v, bnd_some]
  cases ha : isPath a with
  | false => simp
  | true =>
  cases hb : isPath b with
  | false => simp
  | true =>
  simp [sInPlace_v (arm_src ha), sOutPlace_v (arm_dst ha), sInPlace_v (arm_src hb), sOutPlace_v (arm_dst hb), sInterleave_v (arm_src ha) (arm_dst ha) (arm_src hb) (arm_dst hb), cnd_if]
  grind
theorem iConflict_v (a b : Path) : S_iConflict a b = some (conflict a b) := by
  unfold S_iConflict conflict
  simp only [iIsPath_v, bnd_some]
  cases ha : isPath a with
  | false => simp
  | true =>
  cases hb : isPath b with
  | false => simp
  | true =>
  have r1 := arm_rg (arm_src ha)
  have r2 := arm_rg (arm_dst ha)
  have r3 := arm_rg (arm_src hb)
  have r4 := arm_rg (arm_dst hb)
  have hi := iInterleave_v (a := 2 * a.src) (b := 2 * a.dst + 1) (c := 2 * b.src) (d := 2 * b.dst + 1) (by omega) (by omega) (by omega) (by omega)
  have hz : a.src = b.src → crossI (2 * a.src) (2 * a.dst + 1) (2 * b.src) (2 * b.dst + 1) = false := fun h => by simp [crossI, h]
  simp [iInPlace_v (arm_src ha), iOutPlace_v (arm_dst ha), iInPlace_v (arm_src hb), iOutPlace_v (arm_dst hb), hi, cnd_if]
  grind
def has (l : List Int) (n : Int) : Bool := l.any fun x => x == n
theorem sl6Has_v (l : List Int) (n : Int) (h : Sm l) : S_sl6Has l n = some (has l n) := by
  unfold Sm at h
  unfold S_sl6Has has
  simp
  refine (iter_list0 l (by omega) (fun k (_ : Unit) => (l, n, (k : Int))) () (fun s _ _ => some (s.any fun x => x == n)) rfl ?_ ?_).trans (by simp)
  · intro rec _; simp
  · intro rec k x _ hx hk hr
    have hr' := hr ()
    simp only [Int.natCast_succ] at hr'
    simp [hk, getZ_at hx, W_n1 (show k ≤ 9223372036854775806 by omega), cnd_if]
    by_cases e : x = n
    · simp [e]
    · simp [e, hr']
theorem find_loop {α V β : Type} (l : List α) (p : α → Bool) (hl : l.length ≤ 1099511627776) (st : Nat → V) (K : Nat → Option β) (no : Option β) {F : (V → Option β) → V → Option β} {v : V} (hv : v = st 0)
    (h0 : ∀ rec, F rec (st l.length) = no)
    (h1 : ∀ rec k x, l[k]? = some x → k < l.length → F rec (st k) = if p x = true then K k else rec (st (k + 1))) : iter F NN v = match l.findIdx? p with | some i => K i | none => no := by
  refine (iter_list0 l (by omega) (fun k (_ : Unit) => st k) () (fun s k _ => match s.findIdx? p with | some i => K (k + i) | none => no) hv ?_ ?_).trans ?_
  · intro rec _
    rw [h0]; simp
  · intro rec k x _ hx hk hr
    rw [h1 rec k x hx hk, List.findIdx?_cons]
    cases p x with
    | true => simp
    | false =>
      rw [if_neg (by simp), hr ()]
      cases (l.drop (k + 1)).findIdx? p with
      | none => simp
      | some i => simp; congr 1; omega
  · cases l.findIdx? p <;> simp
def findPath (l : List Path) (id : Int) : Int := match l.findIdx? (fun p => p.id == id) with | some i => (i : Int) | none => -1
theorem sFindPath_v (l : List Path) (id : Int) (h : Sm l) : S_sFindPath l id = some (findPath l id) := by
  unfold Sm at h
  unfold S_sFindPath findPath
  simp
  refine (find_loop l (fun p => p.id == id) (by omega) (fun k => (l, id, (k : Int))) (fun k => some (k : Int)) (some (-1)) rfl ?_ ?_).trans ?_
  · intro rec; simp
  · intro rec k x hx hk
    simp [hk, getZ_at hx, W_n1 (show k ≤ 9223372036854775806 by omega), cnd_if]
  · cases l.findIdx? _ <;> rfl
theorem findPath_lt {l : List Path} {id : Int} (h : ¬ findPath l id < 0) : ∃ (i : Nat) (x : Path), l[i]? = some x ∧ findPath l id = (i : Int) ∧ x.id = id := by
  unfold findPath at h ⊢
  cases hf : l.findIdx? (fun p => p.id == id) with
  | none => rw [hf] at h; simp at h
  | some i =>
    have := List.findIdx?_eq_some_iff_getElem.1 hf
    obtain ⟨h1, h2, _⟩ := this
    exact ⟨i, l[i], List.getElem?_eq_getElem h1, rfl, by simpa using h2⟩
def pathAt (l : List Path) (id : Int) : Path := (l[(findPath l id).toNat]?).getD default
theorem getZ_find {β : Type} {l : List Path} {id : Int} (h : ¬ findPath l id < 0) (K : Path → Option β) : getZ l (findPath l id) K = K (pathAt l id) := by
  obtain ⟨i, x, h1, h2, _⟩ := findPath_lt h
  unfold pathAt
  rw [h2, getZ_at h1, Int.toNat_natCast, h1]
  rfl
def prevOk (ids : List Int) (k : Nat) (x : Int) : Bool := if k = 0 then true else match ids[k - 1]? with | some y => decide (y < x) | none => true
def noClash (l : List Path) (x y : Int) : Bool := !conflict (pathAt l x) (pathAt l y)
def goT (l : List Path) (ids : List Int) : Nat → List Int → Bool
  | _, [] => true
  | k, x :: r => !decide (findPath l x < 0) && prevOk ids k x && (ids.take k).all (noClash l x) && goT l ids (k + 1) r
def together (l : List Path) (ids : List Int) : Bool := goT l ids 0 ids && arePaths l
theorem take_at' {α : Type} {l : List α} {k j : Nat} {x : α} (h : (l.take k)[j]? = some x) : l[j]? = some x := by
  rw [List.getElem?_take] at h
  split at h
  · exact h
  · cases h
theorem mem_take_succ {α : Type} {l : List α} {k : Nat} {x y : α} (hx : l[k]? = some x) (h : y ∈ l.take (k + 1)) : y ∈ l.take k ∨ y = x := by
  rw [List.take_add_one, hx] at h
  simpa using h
theorem sIsTogether_v (l : List Path) (ids : List Int) (h : Sm l) (hi : Sm ids) : S_sIsTogether l ids = some (together l ids) := by
  unfold S_sIsTogether together
  simp
  have hi' := hi
  unfold Sm at hi'
  refine (iter_listJ ids (by omega) (fun k (_ : Unit) => (l, ids, (k : Int))) () (fun k _ => ∀ y ∈ ids.take k, ¬ findPath l y < 0) (by simp) (fun s k _ => some (goT l ids k s && arePaths l)) rfl ?_ ?_).trans rfl
  · intro rec _ _
    simp [sArePaths_v l h, goT]
  · intro rec k x _ hJ hx hk hr
    simp only [Int.natCast_succ] at hr
    have hk2 : k ≤ 9223372036854775806 := by omega
    simp [hk, getZ_at hx, sFindPath_v l _ h, goT]
    by_cases c1 : findPath l x < 0
    · simp [c1]
    have hr' := hr () fun y hy => by
      rcases mem_take_succ hx hy with h1 | rfl
      · exact hJ y h1
      · exact c1
    simp only [c1, decide_false, cnd_ff, Bool.not_false, Bool.true_and]
    have hlen : (ids.take k).length = k := by rw [List.length_take]; omega
    generalize hI : iter (_ : (List Path × List Int × Int × Int × Int → Option Bool) → _ → Option Bool) NN _ = I
    have hI' : I = if (ids.take k).all (noClash l x) = true then some (goT l ids (k + 1) (ids.drop (k + 1)) && arePaths l) else some false := by
      rw [← hI]
      refine all_loop (ids.take k) (noClash l x) (by omega) (fun j => (l, ids, (k : Int), findPath l x, (j : Int))) _ _ rfl ?_ ?_
      · intro rec'
        simp [hlen, W_n1 hk2, hr']
      · intro rec' j y hy hj
        have hy' := take_at' hy
        have hj' : j < k := by omega
        simp [hj', getZ_find c1, getZ_at hy', sFindPath_v l _ h, getZ_find (hJ y (mem_at hy)), sConflict_v, W_n1 (show j ≤ 9223372036854775806 by omega), cnd_if, noClash]
        cases conflict (pathAt l x) (pathAt l y) <;> simp
    rw [hI']
    generalize (ids.take k).all (noClash l x) = A
    by_cases h0 : k = 0
    · subst h0
      simp [prevOk]
      cases A <;> simp
    · have hz : ids[k - 1]? = some ids[k - 1] := List.getElem?_eq_getElem (by omega)
      have hk1 : W ((k : Int) - 1) = ((k - 1 : Nat) : Int) := by rw [W_id (by omega) (by omega)]; omega
      simp [show 0 < k by omega, hk1, getZ_at hz]
      rw [show prevOk ids k x = decide (ids[k - 1] < x) by unfold prevOk; simp [h0, hz]]
      by_cases c4 : x ≤ ids[k - 1]
      · simp [c4, show ¬ ids[k - 1] < x by omega]
      · simp [c4, show ids[k - 1] < x by omega]
        cases A <;> simp
@[simp] theorem rws_app_i' {β : Type} (l : List Int) (s : Int) (K : List Int → Option β) : rws iR (l.map iR.enc ++ [[I s]]) K = K (l ++ [s]) :=
  (congrArg (fun z => rws iR z K) (List.map_append (f := iR.enc) (l₁ := l) (l₂ := [s])).symm).trans (rws_enc iR (l ++ [s]) K)
@[simp] theorem bnd_id' {α : Type} (x : Option α) : bnd x (fun r => some r) = x := by cases x <;> rfl
theorem filter_loop {α β V : Type} (l : List α) (p : α → Bool) (hl : l.length ≤ 1099511627776) (st : Nat → List α → V) (K : List α → Option β) {F : (V → Option β) → V → Option β} {v : V} (hv : v = st 0 [])
    (h0 : ∀ rec acc, acc.length ≤ l.length → F rec (st l.length acc) = K acc)
    (h1 : ∀ rec k x acc, l[k]? = some x → k < l.length → acc.length ≤ k → F rec (st k acc) = rec (st (k + 1) (if p x = true then acc ++ [x] else acc))) : iter F NN v = K (l.filter p) := by
  refine (iter_listJ l (by omega) st [] (fun k acc => acc.length ≤ k) (Nat.le_refl _) (fun s _ acc => K (acc ++ s.filter p)) hv ?_ ?_).trans (by simp)
  · intro rec acc h
    rw [h0 rec acc h]
    simp
  · intro rec k x acc h hx hk hr
    rw [h1 rec k x acc hx hk h]
    cases hp : p x with
    | true => rw [if_pos rfl, hr _ (by simp; omega), List.filter_cons_of_pos hp]; simp
    | false => rw [if_neg (by simp), hr _ (by omega), List.filter_cons_of_neg (by simp [hp])]
theorem goT_find {l : List Path} {ids : List Int} : ∀ {s : List Int} {k : Nat}, goT l ids k s = true → ∀ x ∈ s, ¬ findPath l x < 0
  | [], _, _ => fun x hx => by cases hx
  | y :: s, k, h => fun x hx => by
    simp only [goT, Bool.and_eq_true, Bool.not_eq_true', decide_eq_false_iff_not] at h
    rcases List.mem_cons.1 hx with rfl | hx
    · exact h.1.1.1
    · exact goT_find h.2 x hx
theorem together_find {l : List Path} {ids : List Int} (h : together l ids = true) : ∀ x ∈ ids, ¬ findPath l x < 0 := by
  simp only [together, Bool.and_eq_true] at h
  exact goT_find h.1
theorem while_loop {α V β : Type} (l : List α) (p : α → Bool) (hl : l.length ≤ 1099511627776) (st : Nat → V) (R : Nat → Option β) {F : (V → Option β) → V → Option β} {v : V} (hv : v = st 0)
    (h0 : ∀ rec, F rec (st l.length) = R l.length)
    (h1 : ∀ rec k x, l[k]? = some x → k < l.length → F rec (st k) = if p x = true then rec (st (k + 1)) else R k) : iter F NN v = R (l.takeWhile p).length := by
  refine (iter_list0 l (by omega) (fun k (_ : Unit) => st k) () (fun s k _ => R (k + (s.takeWhile p).length)) hv ?_ ?_).trans (by simp)
  · intro rec _; rw [h0]; simp
  · intro rec k x _ hx hk hr
    rw [h1 rec k x hx hk, List.takeWhile_cons]
    cases p x with
    | true =>
      simp only [if_true]
      rw [hr ()]
      congr 1
      simp
      omega
    | false => simp
theorem takeWhile_le {α : Type} (p : α → Bool) (l : List α) : (l.takeWhile p).length ≤ l.length := (List.takeWhile_sublist p).length_le
def low (l : List Int) (n : Int) : Nat := (l.takeWhile fun x => decide (x < n)).length
theorem low_le (l : List Int) (n : Int) : low l n ≤ l.length := takeWhile_le _ _
theorem low_lt : ∀ {l : List Int} {n : Int} {i : Nat} {a : Int}, i < low l n → l[i]? = some a → a < n
  | [], n, i, a, h, hx => by cases hx
  | y :: l, n, i, a, h, hx => by
    unfold low at h
    rw [List.takeWhile_cons] at h
    by_cases c : y < n
    · rw [if_pos (by simp [c])] at h
      cases i with
      | zero => cases hx; exact c
      | succ i => exact low_lt (i := i) (by unfold low; simpa using h) hx
    · rw [if_neg (by simp [c])] at h
      cases h
theorem low_at : ∀ {l : List Int} {n : Int} {a : Int}, l[low l n]? = some a → ¬ a < n
  | [], n, a, h => by cases h
  | y :: l, n, a, h => by
    unfold low at h
    rw [List.takeWhile_cons] at h
    by_cases c : y < n
    · rw [if_pos (by simp [c])] at h
      exact low_at (l := l) (n := n) (by unfold low; simpa using h)
    · rw [if_neg (by simp [c])] at h
      cases h
      exact c
theorem low_ge {l : List Int} (hp : l.Pairwise (· < ·)) {n : Int} {i : Nat} {a : Int} (h : low l n ≤ i) (hx : l[i]? = some a) : ¬ a < n := by
  obtain ⟨hi, rfl⟩ := List.getElem?_eq_some_iff.1 hx
  have h1 : l[low l n]? = some l[low l n] := List.getElem?_eq_getElem (by omega)
  have h2 := low_at h1
  rcases Nat.lt_or_eq_of_le h with h | h
  · have := List.pairwise_iff_getElem.1 hp (low l n) i (by omega) hi h
    omega
  · simp only [← h]
    exact h2
def ins (l : List Int) (n : Int) : List Int := l.take (low l n) ++ [n] ++ l.drop (low l n)
def putI (l : List Int) (n : Int) : List Int := if l[low l n]? = some n then l else ins l n
theorem ins_len (l : List Int) (n : Int) : (ins l n).length = l.length + 1 := by
  have := low_le l n
  unfold ins
  simp only [List.length_append, List.length_take, List.length_drop, List.length_singleton]
  omega
theorem rws_ins (l : List Int) (n : Int) (k : Nat) {β : Type} (K : List Int → Option β) : rws iR (((l.take k).map iR.enc ++ [[I n]]) ++ (l.drop k).map iR.enc) K = K (l.take k ++ [n] ++ l.drop k) := by
  have e : ((l.take k).map iR.enc ++ [[I n]]) ++ (l.drop k).map iR.enc = (l.take k ++ [n] ++ l.drop k).map iR.enc := by
    have h1 := List.map_append (f := iR.enc) (l₁ := l.take k ++ [n]) (l₂ := l.drop k)
    have h2 := List.map_append (f := iR.enc) (l₁ := l.take k) (l₂ := [n])
    exact (h1.trans (congrArg (· ++ _) h2)).symm
  rw [e]
  exact rws_i _ _
theorem rws_ins2 (l : List Int) (n : Int) (k : Nat) {β : Type} (K : List Int → Option β) : rws iR (((l.take k).map iR.enc ++ [[I n]]) ++ ((l.take l.length).drop k).map iR.enc) K = K (l.take k ++ [n] ++ l.drop k) := by
  rw [List.take_length]
  exact rws_ins l n k K
theorem sl6Put_v (l : List Int) (n : Int) (h : Sm l) : S_sl6Put l n = some (putI l n) := by
  have h' := h
  unfold Sm at h'
  unfold S_sl6Put
  simp only [rws_i, len_i, geti_i]
  have hk := low_le l n
  refine (while_loop l (fun x => decide (x < n)) (by omega) (fun k => (l, n, (k : Int))) (fun k => some (if l[k]? = some n then l else l.take k ++ [n] ++ l.drop k)) rfl ?_ ?_).trans rfl
  · intro rec
    rw [show decide (((l.length : Nat) : Int) < ((l.length : Nat) : Int)) = false from decide_eq_false (by omega), cnd_ff, cnd_ff]
    simp only [Int.toNat_natCast, show Int.toNat 0 = 0 from rfl, List.drop_zero, take_i, drop_i, clrs_i, len_i, List.length_nil, List.length_append, List.length_take, List.length_drop, List.length_singleton, rws_ins2]
    rw [ifA_pos (by omega), ifA_pos (by omega), ifA_pos (by omega), ifA_pos (by omega), ifA_pos (by omega)]
    rw [if_neg (by simp)]
  · intro rec k x hx hkl
    rw [show decide (((k : Nat) : Int) < ((l.length : Nat) : Int)) = true from decide_eq_true (by omega), cnd_tt, getZ_at hx]
    by_cases c : x < n
    · simp [c, W_n1 (show k ≤ 9223372036854775806 by omega)]
    rw [decide_eq_false c, cnd_ff, cnd_tt, getZ_at hx, if_neg (by simp), hx]
    simp only [Int.toNat_natCast, show Int.toNat 0 = 0 from rfl, List.drop_zero, take_i, drop_i, clrs_i, len_i, List.length_nil, List.length_append, List.length_take, List.length_drop, List.length_singleton, rws_ins2, rws_i]
    by_cases c2 : x = n
    · subst c2
      rw [beq_self_eq_true, cnd_tt, ifA_pos (by omega), if_pos rfl]
    · rw [show (x == n) = false from beq_eq_false_iff_ne.2 c2, cnd_ff, ifA_pos (by omega), ifA_pos (by omega), ifA_pos (by omega), ifA_pos (by omega), ifA_pos (by omega), if_neg (by simp [c2])]
theorem goT_spec {l : List Path} {ids : List Int} : ∀ {r : List Int} {k : Nat}, goT l ids k r = true → ∀ i x, r[i]? = some x → ¬ findPath l x < 0 ∧ prevOk ids (k + i) x = true
  | [], k, h, i, x, hx => by cases hx
  | y :: r, k, h, i, x, hx => by
    unfold goT at h
    simp only [Bool.and_eq_true, Bool.not_eq_true', decide_eq_false_iff_not] at h
    cases i with
    | zero => cases hx; exact ⟨h.1.1.1, h.1.1.2⟩
    | succ i =>
      have := goT_spec h.2 i x hx
      rwa [show k + 1 + i = k + (i + 1) by omega] at this
theorem together_at {l : List Path} {a : List Int} (h : together l a = true) : ∀ (i : Nat) (x : Int), a[i]? = some x → ¬ findPath l x < 0 ∧ prevOk a i x = true := fun i x hx => by
  unfold together at h
  rw [Bool.and_eq_true] at h
  simpa using goT_spec h.1 i x hx
theorem together_next {l : List Path} {a : List Int} (h : together l a = true) {i : Nat} {x y : Int} (hx : a[i]? = some x) (hy : a[i + 1]? = some y) : x < y := by
  have := (together_at h (i + 1) y hy).2
  unfold prevOk at this
  rw [if_neg (by omega), Nat.add_sub_cancel, hx] at this
  simpa using this
theorem together_lt {l : List Path} {a : List Int} (h : together l a = true) : ∀ (d i : Nat) (x y : Int), a[i]? = some x → a[i + d + 1]? = some y → x < y
  | 0, i, x, y, hx, hy => together_next h hx hy
  | d + 1, i, x, y, hx, hy => by
    have hl : i + (d + 1) + 1 < a.length := (List.getElem?_eq_some_iff.1 hy).1
    have hz : a[i + d + 1]? = some a[i + d + 1] := List.getElem?_eq_getElem (by omega)
    have h1 := together_lt h d i x _ hx hz
    have h2 := together_next h hz (by rw [show i + d + 1 + 1 = i + (d + 1) + 1 by omega]; exact hy)
    omega
theorem together_sorted {l : List Path} {a : List Int} (h : together l a = true) : a.Pairwise (· < ·) := by
  rw [List.pairwise_iff_getElem]
  intro i j hi hj hij
  exact together_lt h (j - i - 1) i _ _ (List.getElem?_eq_getElem hi) (by rw [show i + (j - i - 1) + 1 = j by omega]; exact List.getElem?_eq_getElem hj)
def more (l : List Path) (a : List Int) (p : Path) : List Int := if together l (putI a p.id) = true then putI a p.id else a
theorem has_putI (a : List Int) (n x : Int) : has (putI a n) x = (has a x || n == x) := by
  unfold putI
  split
  · rename_i h
    have hm : n ∈ a := List.mem_of_getElem? h
    by_cases c : n = x
    · subst c
      have : has a n = true := by unfold has; exact List.any_eq_true.2 ⟨n, hm, by simp⟩
      rw [this]; rfl
    · rw [show (n == x) = false from beq_eq_false_iff_ne.2 c, Bool.or_false]
  · unfold ins has
    have e : a.any (fun y => y == x) = ((a.take (low a n)).any (fun y => y == x) || (a.drop (low a n)).any fun y => y == x) := by
      rw [← List.any_append, List.take_append_drop]
    rw [e]
    simp only [List.any_append, List.any_cons, List.any_nil, Bool.or_false]
    cases (a.take (low a n)).any (fun y => y == x) <;> cases (a.drop (low a n)).any (fun y => y == x) <;> cases (n == x) <;> rfl
theorem putI_len (a : List Int) (n : Int) : (putI a n).length ≤ a.length + 1 := by
  unfold putI
  split
  · omega
  · rw [ins_len]; exact Nat.le_refl _
theorem are_len {l : List Path} (h : arePaths l = true) : l.length ≤ 12 := by
  unfold arePaths at h
  rw [Bool.and_eq_true] at h
  exact of_decide_eq_true h.1
theorem appe_ilo {o p q : Own} (h0 : okO o p = true) (h1 : okO o q = true) (l : List (List Int)) (a : List Int) {β : Type} (K : List (List Int) → Option β) :
    rws (rOne (rX o 1 iR)) (l.map (rOne (rX p 1 iR)).enc ++ [[.slc q 1 (a.map iR.enc)]]) K = K (l ++ [a]) :=
  (rws_app (rOne (rX o 1 iR)) _ _ K).trans ((rws_il h0 l _).trans (rws_il h1 [a] fun l' => K (l ++ l')))
theorem find_mem {l : List Path} {id : Int} (h : ¬ findPath l id < 0) : ∃ p ∈ l, p.id = id := by
  unfold findPath at h
  split at h
  · rename_i i hi
    obtain ⟨hlt, hp, _⟩ := List.findIdx?_eq_some_iff_getElem.1 hi
    exact ⟨l[i], List.getElem_mem hlt, by simpa using hp⟩
  · omega
theorem frzss_map {σ : Type} {e e' : σ → List AV} (h : ∀ x, frzs (e x) = e' x) : ∀ l : List σ, frzss (l.map e) = l.map e'
  | [] => rfl
  | x :: l => by simp only [List.map_cons, frzss, h, frzss_map h l]
@[simp] theorem frzss_i (l : List Int) : frzss (l.map iR.enc) = l.map iR.enc := frzss_map (fun _ => rfl) l
@[simp] theorem frzss_path (l : List Path) : frzss (l.map pathR.enc) = l.map pathR.enc := frzss_map (fun _ => rfl) l
def Drawn (l : List Path) : Prop := l.length ≤ 7 ∧ ∀ (i : Nat) (p : Path), l[i]? = some p → p.id = (i : Int) + 1 ∧ isPath { p with id := 1 } = true
theorem cross4 : ∀ a b c d : Fin 4, crossI (2 * ((a : Nat) : Int)) (2 * ((b : Nat) : Int) + 1) (2 * ((c : Nat) : Int)) (2 * ((d : Nat) : Int) + 1) = crossI (2 * ((c : Nat) : Int)) (2 * ((d : Nat) : Int) + 1) (2 * ((a : Nat) : Int)) (2 * ((b : Nat) : Int) + 1) := by
  decide
theorem fin4 {n : Int} (h : 0 ≤ n ∧ n ≤ 3) : ∃ a : Fin 4, n = ((a : Nat) : Int) := ⟨⟨n.toNat, by omega⟩, by simp; omega⟩
theorem isPath_r {p : Path} (h : isPath p = true) : (0 ≤ p.src ∧ p.src ≤ 3) ∧ (0 ≤ p.dst ∧ p.dst ≤ 3) := by
  unfold isPath inR at h
  simp only [Bool.and_eq_true, decide_eq_true_eq] at h
  exact ⟨h.1.1.2, h.1.2⟩
theorem conf_self (a : Path) : conflict a a = false := by
  unfold conflict
  split
  · rfl
  · split
    · rfl
    · rename_i h
      have h2 : ¬ a.kind = 2 := fun e => h ⟨e, e⟩
      simp [h2]
theorem conf_comm (a b : Path) : conflict a b = conflict b a := by
  cases ha : isPath a with
  | false => unfold conflict; simp [ha]
  | true =>
  cases hb : isPath b with
  | false => unfold conflict; simp [hb]
  | true =>
    obtain ⟨a1, a2⟩ := isPath_r ha
    obtain ⟨b1, b2⟩ := isPath_r hb
    obtain ⟨x, hx⟩ := fin4 a1
    obtain ⟨y, hy⟩ := fin4 a2
    obtain ⟨z, hz⟩ := fin4 b1
    obtain ⟨u, hu⟩ := fin4 b2
    have := cross4 x y z u
    unfold conflict
    simp only [ha, hb, Bool.true_eq_false, or_self, if_false]
    by_cases c1 : a.kind = 2 <;> by_cases c2 : b.kind = 2 <;> simp only [c1, c2, and_self, and_true, and_false, true_and, false_and, if_true, if_false]
    by_cases d1 : a.src = b.src
    · rw [if_pos d1, if_pos d1.symm]
    · rw [if_neg d1, if_neg (show ¬ b.src = a.src from fun e => d1 e.symm)]
      by_cases d2 : a.dst = b.dst
      · rw [if_pos d2, if_pos d2.symm]
      · rw [if_neg d2, if_neg (show ¬ b.dst = a.dst from fun e => d2 e.symm), hx, hy, hz, hu]
        exact this
theorem goT_clash {l : List Path} {ids : List Int} : ∀ {r : List Int} {k : Nat}, goT l ids k r = true → ∀ (i : Nat) (x : Int), r[i]? = some x → (ids.take (k + i)).all (noClash l x) = true
  | [], _, _, i, x, hx => by simp at hx
  | y :: r, k, h, i, x, hx => by
    simp only [goT, Bool.and_eq_true] at h
    cases i with
    | zero => simp at hx; subst hx; exact h.1.2
    | succ i =>
      have := goT_clash h.2 i x (by simpa using hx)
      rwa [show k + 1 + i = k + (i + 1) by omega] at this
theorem together_pair {l : List Path} {a : List Int} (h : together l a = true) {x y : Int} (hx : x ∈ a) (hy : y ∈ a) : conflict (pathAt l x) (pathAt l y) = false := by
  unfold together at h
  rw [Bool.and_eq_true] at h
  obtain ⟨i, hi⟩ := List.getElem?_of_mem hx
  obtain ⟨j, hj⟩ := List.getElem?_of_mem hy
  have key : ∀ {i j : Nat} {x y : Int}, a[i]? = some x → a[j]? = some y → j < i → conflict (pathAt l x) (pathAt l y) = false := fun {i j x y} hi hj c => by
    have h1 := goT_clash h.1 i x hi
    have hm : y ∈ a.take (0 + i) := by
      rw [Nat.zero_add, List.mem_iff_getElem?]
      exact ⟨j, by rw [List.getElem?_take, if_pos c]; exact hj⟩
    have := List.all_eq_true.1 h1 _ hm
    unfold noClash at this
    simpa using this
  rcases Nat.lt_trichotomy i j with c | c | c
  · rw [conf_comm]; exact key hj hi c
  · subst c
    rw [hi] at hj
    cases hj
    exact conf_self _
  · exact key hi hj c
theorem find_own' {l : List Path} {x : Path} (hx : x ∈ l) : ¬ findPath l x.id < 0 := by
  unfold findPath
  split
  · omega
  · rename_i hn
    have := List.findIdx?_eq_none_iff.1 hn x hx
    simp at this
theorem goP_asc : ∀ (l : List Path) (pv : Option Int), goP pv l = true → (∀ x ∈ l, ∀ a, pv = some a → a < x.id) ∧ l.Pairwise (fun x y => x.id < y.id)
  | [], _, _ => ⟨by simp, .nil⟩
  | x :: l, pv, h => by
    have h2 : goP (some x.id) l = true := by cases pv <;> · unfold goP at h; simp at h; simp [h]
    obtain ⟨g1, g2⟩ := goP_asc l _ h2
    have hx : ∀ a, pv = some a → a < x.id := fun a e => by
      subst e
      unfold goP at h
      simp at h
      exact h.1.2
    refine ⟨fun y hy a e => ?_, List.pairwise_cons.2 ⟨fun y hy => g1 y hy x.id rfl, g2⟩⟩
    rcases List.mem_cons.1 hy with rfl | hy
    · exact hx a e
    · have := g1 y hy x.id rfl
      have := hx a e
      omega
theorem are_go {l : List Path} (h : arePaths l = true) : goP none l = true := by
  unfold arePaths at h
  rw [Bool.and_eq_true] at h
  exact h.2
theorem own_at {l : List Path} (h : arePaths l = true) {x : Path} (hx : x ∈ l) : pathAt l x.id = x := by
  obtain ⟨k, hx⟩ := List.getElem?_of_mem hx
  obtain ⟨i, y, h1, h2, h3⟩ := findPath_lt (find_own' (List.mem_of_getElem? hx))
  have hy : pathAt l x.id = y := by unfold pathAt; rw [h2, Int.toNat_natCast, h1]; rfl
  rw [hy]
  have hp := (goP_asc l none (are_go h)).2
  rcases Nat.lt_trichotomy i k with c | c | c
  · have := (List.pairwise_iff_getElem.1 hp) i k (List.getElem?_eq_some_iff.1 h1).1 (List.getElem?_eq_some_iff.1 hx).1 c
    rw [(List.getElem?_eq_some_iff.1 h1).2, (List.getElem?_eq_some_iff.1 hx).2] at this
    omega
  · subst c
    rw [h1] at hx
    exact Option.some.inj hx
  · have := (List.pairwise_iff_getElem.1 hp) k i (List.getElem?_eq_some_iff.1 hx).1 (List.getElem?_eq_some_iff.1 h1).1 c
    rw [(List.getElem?_eq_some_iff.1 h1).2, (List.getElem?_eq_some_iff.1 hx).2] at this
    omega
theorem has_mem {a : List Int} {n : Int} : has a n = true ↔ n ∈ a := by
  unfold has
  rw [List.any_eq_true]
  constructor
  · rintro ⟨x, hx, h⟩
    have : x = n := by simpa using h
    exact this ▸ hx
  · intro h
    exact ⟨n, h, by simp⟩
def fullStage (l : List Path) (ids : List Int) : Bool := (l.all fun p => has ids p.id || !together l (putI ids p.id)) && together l ids
theorem putI_smL {a : List Int} {n : Int} (h : a.length ≤ 1000) : Sm (putI a n) := by have := putI_len a n; unfold Sm; omega
theorem sIsFullStage_v (l : List Path) (ids : List Int) (h : Sm l) (hi : ids.length ≤ 1000) : S_sIsFullStage l ids = some (fullStage l ids) := by
  have hl := h
  unfold Sm at hl
  have hs : Sm ids := by unfold Sm; omega
  unfold S_sIsFullStage
  simp only [rws_path, rws_i, len_path]
  refine (all_loop l (fun p => has ids p.id || !together l (putI ids p.id)) (by omega) (fun k => (l, ids, (k : Int))) (some (together l ids)) (some false) rfl ?_ ?_).trans ?_
  · intro rec
    simp [sIsTogether_v l ids h hs]
  · intro rec k p hx hk
    simp only [show decide ((k : Int) < (l.length : Int)) = true by simpa using hk, cnd_tt, geti_path, getZ_at hx, sl6Has_v _ _ hs, bnd_some, rws_path, rws_i, sl6Put_v ids p.id hs, sIsTogether_v l _ h (putI_smL hi), W_n1 (show k ≤ 9223372036854775806 by omega), Int.natCast_succ]
    cases has ids p.id with
    | true => simp
    | false =>
      cases together l (putI ids p.id) <;> simp
  · unfold fullStage
    cases (l.all fun p => has ids p.id || !together l (putI ids p.id)) <;> simp
def search (l : List Path) : List Path → List Int → List (List Int) → List (List Int)
  | [], ids, out => if ids ≠ [] ∧ out.length < 40 ∧ fullStage l ids = true then out ++ [ids] else out
  | p :: r, ids, out => search l r ids (if together l (ids ++ [p.id]) = true then search l r (ids ++ [p.id]) out else out)
theorem search_len (l : List Path) : ∀ (r : List Path) (ids : List Int) (out : List (List Int)), out.length ≤ 40 → (search l r ids out).length ≤ 40
  | [], ids, out, h => by
    unfold search
    split
    · rename_i c; simp; omega
    · exact h
  | p :: r, ids, out, h => by
    unfold search
    refine search_len l r ids _ ?_
    split
    · exact search_len l r _ out h
    · exact h
theorem search_mem (l : List Path) : ∀ (r : List Path) (ids : List Int) (out : List (List Int)), ∀ s ∈ search l r ids out, s ∈ out ∨ (s.length ≤ ids.length + r.length ∧ fullStage l s = true ∧ s ≠ [])
  | [], ids, out, s, h => by
    unfold search at h
    split at h
    · rename_i c
      rcases List.mem_append.1 h with h | h
      · exact .inl h
      · rw [List.mem_singleton.1 h]; exact .inr ⟨by simp, c.2.2, c.1⟩
    · exact .inl h
  | p :: r, ids, out, s, h => by
    unfold search at h
    rcases search_mem l r ids _ s h with h | h
    · split at h
      · rcases search_mem l r _ out s h with h | h
        · exact .inl h
        · refine .inr ⟨?_, h.2⟩
          have := h.1
          simp at this ⊢
          omega
      · exact .inl h
    · refine .inr ⟨?_, h.2⟩
      have := h.1
      simp
      omega
theorem search_v (l : List Path) (hl : l.length ≤ 12) : ∀ (m k : Nat) (ids : List Int) (out : List (List Int)), l.length - k < m → k ≤ l.length → ids.length ≤ k → out.length ≤ 40 → S_sl6Search_n m l (k : Int) ids out = some (search l (l.drop k) ids out)
  | 0, k, ids, out, h, _, _, _ => by omega
  | m + 1, k, ids, out, h, hk, hi, ho => by
    have h' : Sm l := by unfold Sm; omega
    show S_sl6Search_F (S_sl6Search_n m) l (k : Int) ids out = _
    unfold S_sl6Search_F
    simp only [rws_path, rws_i, rws_il_oo, len_path, len_i, len_il]
    by_cases c : k = l.length
    · subst c
      rw [show (((l.length : Nat) : Int) == ((l.length : Nat) : Int)) = true by simp, cnd_tt, List.drop_length]
      unfold search
      by_cases c1 : ids = []
      · subst c1
        simp
      · have hp : 0 < ids.length := List.length_pos_iff.2 c1
        rw [show decide (((ids.length : Nat) : Int) > 0) = true from decide_eq_true (by omega), cnd_tt]
        by_cases c2 : out.length < 40
        · rw [show decide (((out.length : Nat) : Int) < 40) = true from decide_eq_true (by omega), cnd_tt, sIsFullStage_v l ids h' (by omega), bnd_some]
          cases hf : fullStage l ids with
          | true =>
            rw [cnd_tt, ifA_pos (by simp; omega), ifA_pos (by simp; omega), if_pos ⟨c1, c2, rfl⟩]
            have := appe_ilo (o := .own) (p := .own) (q := .own) rfl rfl out ids (fun l => some l)
            first
            | exact this
            | simpa using this
          | false => rw [cnd_ff, if_neg (fun h => by simp at h)]
        · rw [show decide (((out.length : Nat) : Int) < 40) = false from decide_eq_false (by omega), cnd_ff, if_neg (fun h => c2 h.2.1)]
    · have hlt : k < l.length := by omega
      have hx := List.getElem?_eq_getElem hlt
      rw [show (((k : Nat) : Int) == ((l.length : Nat) : Int)) = false by simp; omega, cnd_ff, ifA_pos (by simp; omega)]
      rw [List.drop_eq_getElem_cons hlt]
      generalize l[k] = p at hx
      have hs1 : Sm (ids ++ [p.id]) := by unfold Sm; simp; omega
      simp only [geti_path, getZ_at hx]
      rw [ifA_pos (by simp; omega)]
      have hW : W ((k : Int) + 1) = ((k + 1 : Nat) : Int) := by rw [W_n1 (by omega)]; omega
      simp only [List.nil_append, clrs_i, rws_app_i', hW]
      unfold search
      rw [sIsTogether_v l _ h' hs1, bnd_some]
      cases ht : together l (ids ++ [p.id]) with
      | true =>
        rw [cnd_tt, search_v l hl m (k + 1) (ids ++ [p.id]) out (by omega) (by omega) (by simp; omega) ho, bnd_some]
        simp only [rws_il_oo]
        rw [search_v l hl m (k + 1) ids _ (by omega) (by omega) (by omega) (search_len l _ _ _ ho), bnd_some]
        simp only [rws_il_oo, if_true]
      | false =>
        rw [cnd_ff, search_v l hl m (k + 1) ids out (by omega) (by omega) (by omega) ho, bnd_some]
        simp [rws_il_oo]
def stagesOf (l : List Path) : List (List Int) := if arePaths l = true then search l l [] [] else []
theorem sStagesOf_v (l : List Path) (h : Sm l) : S_sStagesOf l = some (stagesOf l) := by
  unfold S_sStagesOf stagesOf
  simp only [rws_path, sArePaths_v l h, bnd_some]
  cases ha : arePaths l with
  | false => rfl
  | true =>
    have hs := search_v l (are_len ha) 64 0 [] [] (by have := are_len ha; omega) (by omega) (by simp) (by simp)
    simp only [List.drop_zero] at hs
    simp only [Bool.not_true, cnd_ff, if_true]
    rw [show S_sl6Search l 0 [] [] = S_sl6Search_n 64 l ((0 : Nat) : Int) [] [] from rfl, hs, bnd_some]
    simp only [rws_il_oo]
theorem stagesOf_sm (l : List Path) : (stagesOf l).length ≤ 40 ∧ ∀ s ∈ stagesOf l, s.length ≤ 12 := by
  unfold stagesOf
  split
  · rename_i h
    refine ⟨search_len l l [] [] (by simp), fun s hs => ?_⟩
    rcases search_mem l l [] [] s hs with h1 | h1
    · cases h1
    · have := are_len h
      have := h1.1
      simp at this
      omega
  · exact ⟨by simp, fun s hs => (by cases hs)⟩
end Go.Sh
