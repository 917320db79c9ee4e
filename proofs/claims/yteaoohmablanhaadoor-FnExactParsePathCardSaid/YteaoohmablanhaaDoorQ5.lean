/- Plain facts: what the functions compute. -/
import Derived.Test.YteaoohmablanhaaDoorHp5
import Derived.Lib.ItoaLen
set_option linter.all false
namespace Go.Sh
open Go.Fx
theorem sl1In_v (x a b : Int) : S_sl1In x a b = some (decide (a ≤ x) && decide (x ≤ b)) := by
  unfold S_sl1In
  by_cases h : a ≤ x <;> simp [h, cnd_if]
theorem iInRange_v (x a b : Int) : S_iInRange x a b = some (decide (a ≤ x) && decide (x ≤ b)) := by
  unfold S_iInRange
  by_cases h : a ≤ x <;> simp [h, cnd_if]
theorem W_n1 {n : Nat} (h : n ≤ 9223372036854775806) : W ((n : Int) + 1) = (n : Int) + 1 := W_id (by omega) (by omega)
/-! paths -/
def inR (n a b : Int) : Bool := decide (a ≤ n) && decide (n ≤ b)
def isPath (p : Path) : Bool := inR p.id 1 20 && inR p.kind 1 3 && inR p.src 0 3 && inR p.dst 0 3 && ((p.src == p.dst) == (p.kind == 2))
theorem sIsPath_v (p : Path) : S_sIsPath p = some (isPath p) := by
  unfold S_sIsPath isPath inR
  simp only [sl1In_v, bnd_some]
  cases (decide (1 ≤ p.id) && decide (p.id ≤ 20)) <;> cases (decide (1 ≤ p.kind) && decide (p.kind ≤ 3)) <;> cases (decide (0 ≤ p.src) && decide (p.src ≤ 3)) <;> cases (decide (0 ≤ p.dst) && decide (p.dst ≤ 3)) <;> simp
theorem iIsPath_v (p : Path) : S_iIsPath p = some (isPath p) := by
  unfold S_iIsPath isPath inR
  simp only [iInRange_v, bnd_some]
  cases (decide (1 ≤ p.id) && decide (p.id ≤ 20)) <;> cases (decide (1 ≤ p.kind) && decide (p.kind ≤ 3)) <;> cases (decide (0 ≤ p.src) && decide (p.src ≤ 3)) <;> cases (decide (0 ≤ p.dst) && decide (p.dst ≤ 3)) <;> simp
/-- valid paths, their ids rising -/
def goP : Option Int → List Path → Bool
  | _, [] => true
  | none, p :: r => isPath p && goP (some p.id) r
  | some i, p :: r => isPath p && decide (i < p.id) && goP (some p.id) r
def arePaths (l : List Path) : Bool := decide (l.length ≤ 12) && goP none l
/-- the id ahead of place k -/
def prevId (l : List Path) (k : Nat) : Option Int := if k = 0 then none else (l[k - 1]?).map (·.id)
theorem prevId_succ {l : List Path} {k : Nat} {x : Path} (h : l[k]? = some x) : prevId l (k + 1) = some x.id := by
  unfold prevId
  simp [h]
/-! the longest clearing -/
def clearOf (p : Path) : Int := if isPath p then (if p.kind = 1 then 2 else if p.kind = 2 then 5 else 3) else 0
theorem kind_of {p : Path} (h : isPath p = true) : p.kind = 1 ∨ p.kind = 2 ∨ p.kind = 3 := by
  simp [isPath, inR] at h
  omega
def longestClear (l : List Path) : Int := if arePaths l then l.foldl (fun n p => if n < clearOf p then clearOf p else n) 0 else 0
def waitBound (l : List Path) : Int := W (W ((l.length : Int) + 1) * W (W (W (60 + longestClear l) + 20) + 1))
/-! the busiest arm -/
def ends (l : List Path) (a : Nat) : Int := cnt (fun p => p.src == (a : Int) || p.dst == (a : Int)) l
def busy (l : List Path) : List Nat → Int × Int → Int
  | [], b => b.1
  | a :: r, b => if b.2 < ends l a then busy l r (a, ends l a) else busy l r b
def busiestArm (l : List Path) : Int := if arePaths l then busy l (List.range 4) (-1, 0) else -1
theorem range_at {n k x : Nat} (h : (List.range n)[k]? = some x) : x = k := by
  rw [List.getElem?_range (by
    have := (List.getElem?_eq_some_iff.1 h).1
    simpa using this)] at h
  exact (Option.some.inj h).symm
theorem tmod_pos {a m : Int} (h : 0 ≤ a) : Int.tmod a m = a % m := Int.tmod_eq_emod_of_nonneg h
theorem sl1In_t {x a b : Int} (h : a ≤ x) (h' : x ≤ b) : S_sl1In x a b = some true := by rw [sl1In_v]; simp [h, h']
theorem iInRange_t {x a b : Int} (h : a ≤ x) (h' : x ≤ b) : S_iInRange x a b = some true := by rw [iInRange_v]; simp [h, h']
theorem tmod_cases (n : Int) {m : Int} (h : 0 < m) : (0 ≤ Int.tmod n m ∧ Int.tmod n m < m ∧ Int.tmod n m = n % m) ∨ (Int.tmod n m < 0 ∧ -m < Int.tmod n m ∧ Int.tmod n m + m = n % m) := by
  have h1 := Int.tmod_lt_of_pos n h
  have h2 := Int.lt_tmod_of_pos n h
  have h3 : n = m * Int.tdiv n m + Int.tmod n m := by have := Int.mul_tdiv_add_tmod n m; omega
  have h4 : n % m = Int.tmod n m % m := by
    conv => lhs; rw [h3]
    rw [Int.add_comm, Int.add_mul_emod_self_left]
  rcases (by omega : Int.tmod n m < 0 ∨ 0 ≤ Int.tmod n m) with hn | hp
  · right
    refine ⟨hn, h2, ?_⟩
    rw [h4, ← Int.add_emod_right, Int.emod_eq_of_lt (by omega) (by omega)]
  · left
    exact ⟨hp, h1, by rw [h4, Int.emod_eq_of_lt hp h1]⟩
def mix (a v : Int) : Int := Int.tmod (W (W (W (a * 1000003) + v % 2147483647) + 13)) 2147483647
def hash (l : List Int) : Int := l.foldl mix 11
def sealOf (b s : Int) (l : List Int) : Int := hash (b :: s :: l)
theorem sl1In_r (x a b : Int) : S_sl1In x a b = some (inR x a b) := sl1In_v x a b
theorem iInRange_r (x a b : Int) : S_iInRange x a b = some (inR x a b) := iInRange_v x a b
theorem all_loop {α V β : Type} (l : List α) (p : α → Bool) (hl : l.length ≤ 1099511627776) (st : Nat → V) (K no : Option β) {F : (V → Option β) → V → Option β} {v : V} (hv : v = st 0)
    (h0 : ∀ rec, F rec (st l.length) = K)
    (h1 : ∀ rec k x, l[k]? = some x → k < l.length → F rec (st k) = if p x = true then rec (st (k + 1)) else no) : iter F NN v = if l.all p = true then K else no := by
  refine (iter_list0 l (by omega) (fun k (_ : Unit) => st k) () (fun s _ _ => if s.all p = true then K else no) hv ?_ ?_).trans rfl
  · intro rec _
    rw [h0]; simp
  · intro rec k x _ hx hk hr
    rw [h1 rec k x hx hk, List.all_cons]
    cases p x with
    | true => simpa using hr ()
    | false => simp
theorem getZ0 {α β : Type} {l : List α} {x : α} (h : l[0]? = some x) (K : α → Option β) : getZ l 0 K = K x := getZ_at h K
def later (pv : Option Int) (s : Int) : Bool := match pv with | none => true | some p => decide (p < s)
theorem mem_at {α : Type} {l : List α} {k : Nat} {x : α} (h : l[k]? = some x) : x ∈ l := List.mem_of_getElem? h
def bs (l : List UInt8) : ByteArray := ⟨l.toArray⟩
theorem bs_eq (l : List UInt8) : ByteArray.mk l.toArray = bs l := rfl
theorem bs_size (l : List UInt8) : (bs l).size = l.length := rfl
def dash : ByteArray := bs [45]
def jn (a b : ByteArray) (r : List ByteArray) : ByteArray := r.foldl (fun a x => a ++ b ++ x) a
def joined (l : List ByteArray) (b : ByteArray) : ByteArray := match l with | [] => dash | x :: r => jn x b r
def tot (l : List ByteArray) (b : ByteArray) : Nat := (l.map (fun x => x.size + b.size)).sum
theorem tot_cons (x : ByteArray) (l : List ByteArray) (b : ByteArray) : tot (x :: l) b = x.size + b.size + tot l b := by simp [tot]
theorem jn_data (b : ByteArray) : ∀ (r : List ByteArray) (a : ByteArray), (jn a b r).data.toList = a.data.toList ++ Lib.joinTail b.data.toList (r.map (·.data.toList))
  | [], a => by simp [jn, Lib.joinTail]
  | x :: r, a => by
    show (jn (a ++ b ++ x) b r).data.toList = _
    rw [jn_data b r]
    simp [Lib.joinTail]
theorem joinB_cons (x : ByteArray) (r : List ByteArray) (b : ByteArray) : joinB (x :: r) b = jn x b r := by
  have h : (joinB (x :: r) b).data.toList = (jn x b r).data.toList := by
    rw [jn_data]
    show (Lib.join _ _).toArray.toList = _
    rw [List.map_cons, Lib.join_cons]
  have h2 : (joinB (x :: r) b).data = (jn x b r).data := Array.toList_inj.1 h
  exact ByteArray.ext h2
theorem jn_size (b : ByteArray) : ∀ (r : List ByteArray) (a : ByteArray), (jn a b r).size = a.size + tot r b
  | [], a => by simp [jn, tot]
  | x :: r, a => by
    show (jn (a ++ b ++ x) b r).size = _
    rw [jn_size b r, tot_cons, ByteArray.size_append, ByteArray.size_append]
    omega
theorem join_len (x : ByteArray) (r : List ByteArray) (b : ByteArray) : (Lib.join ((x :: r).map (·.data.toList)) b.data.toList).length = x.size + tot r b := by
  have h := jn_size b r x
  rw [← joinB_cons] at h
  exact h
theorem ijoined_v (l : List ByteArray) (b : ByteArray) (h : l.length ≤ 1099511627776) (ht : tot l b ≤ 1099511627776) : S_ijoined l b = some (joined l b) := by
  unfold S_ijoined
  cases l with
  | nil => rfl
  | cons x r =>
    have hj : S_strings_Join (x :: r) b = some (jn x b r) := by
      unfold S_strings_Join
      rw [tot_cons] at ht
      rw [ifA_pos ⟨by omega, by rw [join_len]; omega⟩, joinB_cons]
    simp [hj]
    rw [show (((r.length : Int) + 1) == 0) = false by simp; omega]
    rfl
theorem sl39Join_v (l : List ByteArray) (b : ByteArray) (h : l.length ≤ 1099511627776) (ht : tot l b ≤ 1099511627776) : S_sl39Join l b = some (joined l b) := by
  unfold S_sl39Join
  simp
  refine (iter_listJ l (by omega) (fun k acc => (l, b, acc, (k : Int))) (bs []) (fun k acc => (k = 0 → acc = bs []) ∧ acc.size + tot (l.drop k) b ≤ 1099511627776) ⟨fun _ => rfl, by simpa [bs_size] using ht⟩
    (fun s k acc => some (if l.length = 0 then dash else if k = 0 then (match s with | [] => acc | x :: r => jn (acc ++ x) b r) else jn acc b s)) rfl ?_ ?_).trans ?_
  · intro rec acc hJ
    simp [cnd_if]
    by_cases h0 : l = []
    · simp [h0]; rfl
    · simp [h0, jn]
  · intro rec k x acc hJ hx hk hr
    simp only [Int.natCast_succ] at hr
    have hl0 : ¬ l = [] := by rintro rfl; simp at hk
    obtain ⟨hJ0, hJ1⟩ := hJ
    rw [show l.drop k = x :: l.drop (k + 1) by
      have := (List.getElem?_eq_some_iff.1 hx).2
      rw [List.drop_eq_getElem_cons hk, this], tot_cons] at hJ1
    simp [hk, getZ_at hx, W_n1 (show k ≤ 9223372036854775806 by omega), hl0]
    by_cases h0 : k = 0
    · subst h0
      simp
      rw [ifA_pos (by omega)]
      have := hr (acc ++ x) ⟨by omega, by rw [ByteArray.size_append]; omega⟩
      simp [hl0] at this
      simpa using this
    · simp [h0, show 0 < k by omega]
      rw [ifA_pos (by omega), ifA_pos (by omega)]
      have := hr (acc ++ b ++ x) ⟨by omega, by rw [ByteArray.size_append, ByteArray.size_append]; omega⟩
      simp [hl0] at this
      simpa [jn] using this
  · cases l with
    | nil => rfl
    | cons x r => simp [joined]; rw [show bs [] ++ x = x from by apply ByteArray.ext; simp [bs]]
@[simp] theorem bnd_id {α : Type} (x : Option α) : bnd x (fun r => some r) = x := by cases x <;> rfl
@[simp] theorem rws_app_s {β : Type} (l : List ByteArray) (s : ByteArray) (K : List ByteArray → Option β) : rws sR (l.map sR.enc ++ [[Sg s]]) K = K (l ++ [s]) :=
  (congrArg (fun z => rws sR z K) (List.map_append (f := sR.enc) (l₁ := l) (l₂ := [s])).symm).trans (rws_enc sR (l ++ [s]) K)
@[simp] theorem rws_app_i {β : Type} (l : List Int) (s : Int) (K : List Int → Option β) : rws iR (l.map iR.enc ++ [[I s]]) K = K (l ++ [s]) :=
  (congrArg (fun z => rws iR z K) (List.map_append (f := iR.enc) (l₁ := l) (l₂ := [s])).symm).trans (rws_enc iR (l ++ [s]) K)
/-- a list of texts that grows one by one -/
theorem grow_loop {α V β : Type} (l : List α) (f : α → ByteArray) (hl : l.length ≤ 1099511627776) (st : Nat → List ByteArray → V) (K : List ByteArray → Option β) {F : (V → Option β) → V → Option β} {v : V} (hv : v = st 0 [])
    (h0 : ∀ rec acc, acc.length = l.length → F rec (st l.length acc) = K acc)
    (h1 : ∀ rec k x acc, l[k]? = some x → k < l.length → acc.length = k → F rec (st k acc) = rec (st (k + 1) (acc ++ [f x]))) : iter F NN v = K (l.map f) := by
  refine (iter_listJ l (by omega) st [] (fun k acc => acc.length = k) rfl (fun s _ acc => K (acc ++ s.map f)) hv ?_ ?_).trans (by simp)
  · intro rec acc h
    rw [h0 rec acc h]
    simp
  · intro rec k x acc h hx hk hr
    rw [h1 rec k x acc hx hk h, hr _ (by simp [h])]
    simp
def lightCh (v : Int) : ByteArray := if v = 0 then bs [114] else if v = 1 then bs [103] else if v = 2 then bs [99] else bs [46]
theorem lightCh_size (v : Int) : (lightCh v).size = 1 := by
  unfold lightCh
  split <;> (try split) <;> (try split) <;> rfl
theorem tot_const {α : Type} (l : List α) (f : α → ByteArray) (b : ByteArray) (n : Nat) (h : ∀ x ∈ l, (f x).size ≤ n) : tot (l.map f) b ≤ l.length * (n + b.size) := by
  induction l with
  | nil => simp [tot]
  | cons x l ih =>
    rw [List.map_cons, tot_cons, List.length_cons, Nat.succ_mul]
    have := ih fun y hy => h y (List.mem_cons_of_mem _ hy)
    have := h x (List.mem_cons_self ..)
    omega
def formatLights (l : List Int) : ByteArray := joined (l.map lightCh) (bs [])
theorem rg_of {n : Int} (h : Rg n) : -9223372036854775808 ≤ n ∧ n ≤ 9223372036854775807 := h
theorem iFormatInt_v (n : Int) (h : Rg n) : S_iFormatInt n = some (itoaB n) := by
  unfold S_iFormatInt S_strconv_Itoa
  rw [ifA_pos (rg_of h)]
  rfl
/-- the digits ahead of a text -/
def dig : Nat → ByteArray → ByteArray
  | u, s => if h : u = 0 then s else dig (u / 10) (bs [UInt8.ofNat (48 + u % 10)] ++ s)
termination_by u => u
decreasing_by omega
theorem dig_zero (s : ByteArray) : dig 0 s = s := by rw [dig]; simp
theorem dig_pos {u : Nat} (h : u ≠ 0) (s : ByteArray) : dig u s = dig (u / 10) (bs [UInt8.ofNat (48 + u % 10)] ++ s) := by rw [dig]; simp [h]
theorem dig_data : ∀ (u : Nat) (s : ByteArray), u ≠ 0 → (dig u s).data.toList = Lib.decDigits u ++ s.data.toList := by
  intro u
  induction u using Nat.strongRecOn with
  | _ u ih =>
    intro s h
    rw [dig_pos h]
    by_cases hs : u < 10
    · rw [show u / 10 = 0 by omega, dig_zero, Lib.decDigits, dif_pos hs, show u % 10 = u by omega]
      simp [bs]
    · rw [ih (u / 10) (by omega) _ (by omega), Lib.decDigits.eq_1 u, dif_neg hs]
      simp [bs]
theorem bst_one (n : Int) {β : Type} (K : ByteArray → Option β) : bst [[AV.lit (.int .u8 n)]] K = K (bs [UInt8.ofNat n.toNat]) := rfl
theorem wrap8 {n : Int} (h : 0 ≤ n) (h' : n ≤ 255) : IntKind.u8.wrap n = n := by
  have e : IntKind.u8.wrap n = n % 256 := by
    unfold IntKind.wrap
    rw [show IntKind.u8.signed = false from rfl, show IntKind.u8.bits = 8 from rfl]
    simp
  rw [e]
  omega
theorem tmod10 (x : Int) : (Int.tmod x 10).natAbs = x.natAbs % 10 ∧ (0 ≤ x → 0 ≤ Int.tmod x 10) ∧ (x ≤ 0 → Int.tmod x 10 ≤ 0) := by
  refine ⟨by rw [Int.natAbs_tmod]; rfl, fun h => Int.tmod_nonneg 10 h, fun h => ?_⟩
  have := Int.tmod_nonneg 10 (show 0 ≤ -x by omega)
  rw [Int.neg_tmod] at this
  omega
theorem tdiv10 (x : Int) : (Int.tdiv x 10).natAbs = x.natAbs / 10 ∧ (0 ≤ x → 0 ≤ Int.tdiv x 10) ∧ (x ≤ 0 → Int.tdiv x 10 ≤ 0) := by
  refine ⟨by rw [Int.natAbs_tdiv]; rfl, fun h => Int.tdiv_nonneg h (by decide), fun h => ?_⟩
  have := Int.tdiv_nonneg (show 0 ≤ -x by omega) (show (0 : Int) ≤ 10 by decide)
  rw [Int.neg_tdiv] at this
  omega
theorem minus_data (s : ByteArray) : (bs [45] ++ s).data.toList = 45 :: s.data.toList := by simp [bs]
theorem itoaB_eq {n : Int} (h : n ≠ 0) : itoaB n = if n < 0 then bs [45] ++ dig n.natAbs (bs []) else dig n.natAbs (bs []) := by
  have hd : ∀ u, u ≠ 0 → (dig u (bs [])).data.toList = Lib.decDigits u := fun u hu => by rw [dig_data u _ hu]; simp [bs]
  have key : (itoaB n).data.toList = (if n < 0 then bs [45] ++ dig n.natAbs (bs []) else dig n.natAbs (bs [])).data.toList := by
    show (Lib.itoa n).toArray.toList = _
    unfold Lib.itoa
    split
    · rw [minus_data, hd _ (by omega)]
    · rw [hd _ (by omega), show n.toNat = n.natAbs by omega]
  exact ByteArray.ext (Array.toList_inj.1 key)
theorem sFormatInt_v (n : Int) (h : Rg n) : S_sFormatInt n = some (itoaB n) := by
  obtain ⟨h0, h1⟩ := rg_of h
  unfold S_sFormatInt
  by_cases hz : n = 0
  · subst hz
    have : itoaB 0 = bs [48] := by
      unfold itoaB Lib.itoa
      rw [if_neg (by decide), Lib.decDigits, dif_pos (by decide)]
      rfl
    rw [this]; rfl
  rw [show (n == 0) = false by simpa using hz, cnd_ff, itoaB_eq hz]
  refine (iter_ind (R := fun v : Int × ByteArray × Int => some (if v.1 < 0 then bs [45] ++ dig v.2.2.natAbs v.2.1 else dig v.2.2.natAbs v.2.1)) (fun v => 20 - v.2.1.size)
    (fun v => v.2.1.size ≤ 19 ∧ 10 ^ v.2.1.size * v.2.2.natAbs ≤ 9223372036854775808) ?_ NN (n, bs [], n) ⟨by simp [bs_size], by simp [bs_size]; omega⟩ (by rw [NN_eq]; simp [bs_size])).trans rfl
  rintro rec ⟨m, s, x⟩ ⟨i1, i2⟩ hr
  simp only at i1 i2 hr ⊢
  by_cases hx : x = 0
  · subst hx
    simp [dig_zero]
    by_cases hm : m < 0
    · simp [hm]
      rw [ifA_pos (by show 1 + s.size ≤ _; omega)]
      rfl
    · simp [hm]
  · rw [show (x != 0) = true by simpa using hx, cnd_tt]
    have hs18 : s.size ≤ 18 := by
      refine Nat.le_of_not_lt fun hlt => ?_
      have h19 : 10 ^ 19 ≤ 10 ^ s.size := Nat.pow_le_pow_right (by decide) hlt
      have : 10 ^ s.size * 1 ≤ 10 ^ s.size * x.natAbs := Nat.mul_le_mul_left _ (by omega)
      omega
    obtain ⟨a1, a2, a3⟩ := tmod10 x
    obtain ⟨b1, b2, b3⟩ := tdiv10 x
    have hxb : x.natAbs ≤ 9223372036854775808 := by
      have : 1 * x.natAbs ≤ 10 ^ s.size * x.natAbs := Nat.mul_le_mul_right _ (Nat.pow_pos (by decide))
      omega
    have hW : W (Int.tdiv x 10) = Int.tdiv x 10 := W_id (by omega) (by omega)
    have hrec : ∀ d : UInt8, d = UInt8.ofNat (48 + x.natAbs % 10) → ifA ((bs [d]).size + s.size ≤ 1099511627776) (rec (m, bs [d] ++ s, W (Int.tdiv x 10))) = some (if m < 0 then bs [45] ++ dig x.natAbs s else dig x.natAbs s) := by
      rintro d rfl
      rw [ifA_pos (by show 1 + s.size ≤ _; omega), hW, hr (m, _, Int.tdiv x 10) ⟨by simp [ByteArray.size_append, bs_size]; omega, ?_⟩ (by simp only [ByteArray.size_append, bs_size, List.length_singleton]; omega), dig_pos (u := x.natAbs) (by omega), b1]
      simp only [ByteArray.size_append, bs_size, b1]
      have e : 10 ^ ([UInt8.ofNat (48 + x.natAbs % 10)].length + s.size) = 10 ^ s.size * 10 := by rw [List.length_singleton, Nat.add_comm, Nat.pow_succ]
      rw [e, Nat.mul_assoc]
      exact Nat.le_trans (Nat.mul_le_mul_left _ (Nat.mul_div_le _ _)) i2
    by_cases hd : Int.tmod x 10 < 0
    · rw [show decide (Int.tmod x 10 < 0) = true by simpa using hd, cnd_tt, W_id (n := 0 - Int.tmod x 10) (by omega) (by omega), W_id (by omega) (by omega), wrap8 (by omega) (by omega), bst_one]
      exact hrec _ (by congr 1; omega)
    · rw [show decide (Int.tmod x 10 < 0) = false by simpa using hd, cnd_ff, W_id (by omega) (by omega), wrap8 (by omega) (by omega), bst_one]
      exact hrec _ (by congr 1; omega)
theorem itoaB_size {n : Int} (h : Rg n) : (itoaB n).size ≤ 21 := Lib.itoa_length_le n h.1 h.2
def formatNumbers (l : List Int) : ByteArray := joined (l.map itoaB) (bs [32])
theorem sFormatNumbers_v (l : List Int) (h : Sm l) (hr : ∀ y ∈ l, Rg y) : S_sFormatNumbers l = some (formatNumbers l) := by
  unfold Sm at h
  unfold S_sFormatNumbers formatNumbers
  simp
  refine (grow_loop l itoaB (by omega) (fun k acc => (l, acc, (k : Int))) (fun a => S_sl39Join a (bs [32])) rfl ?_ ?_).trans ?_
  · intro rec acc ha
    simp
    rfl
  · intro rec k x acc hx hk ha
    simp [hk, getZ_at hx, sFormatInt_v x (hr x (mem_at hx)), W_n1 (show k ≤ 9223372036854775806 by omega), ha, show (k + 1) * 16 ≤ 140737488355328 by omega, show k ≤ 1152921504606846975 by omega]
  · refine sl39Join_v _ _ (by simp; omega) ?_
    have := tot_const l itoaB (bs [32]) 21 fun x hx => itoaB_size (hr x hx)
    simp [bs_size] at this
    omega
theorem iFormatNumbers_v (l : List Int) (h : Sm l) (hr : ∀ y ∈ l, Rg y) : S_iFormatNumbers l = some (formatNumbers l) := by
  unfold Sm at h
  unfold S_iFormatNumbers formatNumbers
  simp
  refine (grow_loop l itoaB (by omega) (fun k acc => (acc, l, (l.length : Int), (k : Int))) (fun a => S_ijoined a (bs [32])) rfl ?_ ?_).trans ?_
  · intro rec acc ha
    simp
    rfl
  · intro rec k x acc hx hk ha
    simp [hk, getZ_at hx, iFormatInt_v x (hr x (mem_at hx)), W_n1 (show k ≤ 9223372036854775806 by omega), ha, show (k + 1) * 16 ≤ 140737488355328 by omega, show k ≤ 1152921504606846975 by omega]
  · refine ijoined_v _ _ (by simp; omega) ?_
    have := tot_const l itoaB (bs [32]) 21 fun x hx => itoaB_size (hr x hx)
    simp [bs_size] at this
    omega
theorem joined_size (l : List ByteArray) (b : ByteArray) : (joined l b).size ≤ tot l b + 1 := by
  cases l with
  | nil => exact Nat.le_of_eq rfl
  | cons x r =>
    show (jn x b r).size ≤ _
    rw [jn_size, tot_cons]; omega
theorem formatNumbers_size {l : List Int} (h : Sm l) (hr : ∀ y ∈ l, Rg y) : (formatNumbers l).size ≤ 23068673 := by
  have h1 := joined_size (l.map itoaB) (bs [32])
  have h2 := tot_const l itoaB (bs [32]) 21 fun x hx => itoaB_size (hr x hx)
  unfold Sm at h
  simp [bs_size] at h2
  unfold formatNumbers
  omega
theorem formatLights_size {l : List Int} (h : Sm l) : (formatLights l).size ≤ 1048577 := by
  have h1 := joined_size (l.map lightCh) (bs [])
  have h2 := tot_const l lightCh (bs []) 1 fun x _ => Nat.le_of_eq (lightCh_size x)
  unfold Sm at h
  simp [bs_size] at h2
  unfold formatLights
  omega
/-- a kind's letter -/
def kindCh (k : Int) : ByteArray := if k = 1 then bs [99] else if k = 2 then bs [119] else bs [98]
def pathText (p : Path) : ByteArray := if isPath p then itoaB p.id ++ kindCh p.kind ++ itoaB p.src ++ itoaB p.dst else bs []
theorem kindCh_size (k : Int) : (kindCh k).size = 1 := by
  unfold kindCh
  split <;> (try split) <;> rfl
theorem pathText_size {p : Path} (h : OkPath p) : (pathText p).size ≤ 64 := by
  obtain ⟨k0, k1, k2, k3⟩ := h
  have z0 := itoaB_size k0
  have z1 := itoaB_size k2
  have z2 := itoaB_size k3
  have z3 := kindCh_size p.kind
  unfold pathText
  split
  · simp only [ByteArray.size_append]; omega
  · exact Nat.zero_le _
theorem sPathText_v (p : Path) (h : OkPath p) : S_sPathText p = some (pathText p) := by
  obtain ⟨k0, k1, k2, k3⟩ := h
  have z0 := itoaB_size k0
  have z1 := itoaB_size k2
  have z2 := itoaB_size k3
  have z3 := kindCh_size p.kind
  unfold S_sPathText pathText
  rw [sIsPath_v, bnd_some]
  cases hp : isPath p with
  | false => rfl
  | true =>
    have e : ∀ K : ByteArray → Option ByteArray, geti sR [[Sg (ByteArray.mk (List.toArray []))], [Sg (ByteArray.mk (List.toArray [99]))], [Sg (ByteArray.mk (List.toArray [119]))], [Sg (ByteArray.mk (List.toArray [98]))]] p.kind K = K (kindCh p.kind) := by
      intro K
      rcases kind_of hp with e | e | e <;> rw [e] <;> rfl
    simp only [Bool.not_true, cnd_ff, e, sFormatInt_v _ k0, sFormatInt_v _ k2, sFormatInt_v _ k3, bnd_some, ByteArray.size_append, if_true]
    rw [ifA_pos (by omega), ifA_pos (by omega), ifA_pos (by omega)]
theorem iPathText_v (p : Path) (h : OkPath p) : S_iPathText p = some (pathText p) := by
  obtain ⟨k0, k1, k2, k3⟩ := h
  have z0 := itoaB_size k0
  have z1 := itoaB_size k2
  have z2 := itoaB_size k3
  have z3 := kindCh_size p.kind
  unfold S_iPathText pathText
  rw [iIsPath_v, bnd_some]
  cases hp : isPath p with
  | false => rfl
  | true =>
    have e : ByteArray.extract (ByteArray.mk (List.toArray [99, 119, 98])) (Int.toNat (W (p.kind - 1))) (Int.toNat p.kind) = kindCh p.kind := by
      rcases kind_of hp with e | e | e <;> rw [e] <;> rfl
    have hk : W (p.kind - 1) = p.kind - 1 := by
      have := kind_of hp
      exact W_id (by omega) (by omega)
    simp only [Bool.not_true, cnd_ff, e, iFormatInt_v _ k0, iFormatInt_v _ k2, iFormatInt_v _ k3, bnd_some, ByteArray.size_append, if_true]
    have := kind_of hp
    rw [hk, ifA_pos ⟨by omega, by omega, by show p.kind ≤ 3; omega⟩, ifA_pos (by omega), ifA_pos (by omega), ifA_pos (by omega)]
def formatPaths (l : List Path) : ByteArray := joined (l.map pathText) (bs [32])
end Go.Sh
