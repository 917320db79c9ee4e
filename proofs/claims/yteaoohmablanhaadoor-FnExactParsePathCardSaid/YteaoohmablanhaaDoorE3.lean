/- Paths out of their texts. -/
import Derived.Test.YteaoohmablanhaaDoorE2
set_option linter.all false
namespace Go.Sh
open Go.Fx
theorem getb_at {β : Type} {s : ByteArray} {k : Nat} {c : UInt8} (h : s.data.toList[k]? = some c) (K : Int → Option β) : getb s (k : Int) K = K (c.toNat : Int) := by
  unfold getb
  rw [if_pos (by omega), Int.toNat_natCast, h]
theorem ba_size (s : ByteArray) : s.size = s.data.toList.length := Array.length_toList.symm
/-- digits -/
def pd : List UInt8 → Int → Option Int
  | [], n => some n
  | c :: r, n => if (c.toNat : Int) < 48 ∨ (57 : Int) < (c.toNat : Int) then none else pd r (W (W (10 * n) + W (IntKind.u8.wrap ((c.toNat : Int) - 48))))
def parsed (x : Option Int) : Int × Bool := match x with | none => (0, false) | some n => if (1000000000000 : Int) < n then (0, false) else (n, true)
def parseInt (u : List UInt8) : Int × Bool :=
  if u.length = 0 ∨ 13 < u.length ∨ (1 < u.length ∧ u[0]? = some 48) then (0, false) else parsed (pd u 0)
theorem digits_loop (s : ByteArray) (hs : s.size ≤ 1099511627776) {F : ((ByteArray × Int × Int × Int) → Option (Int × Bool)) → (ByteArray × Int × Int × Int) → Option (Int × Bool)}
    (hF : ∀ rec x, F rec x = cnd (decide (x.2.2.2 < x.2.2.1)) (getb x.1 x.2.2.2 fun c4 => cnd (decide (c4 < 48)) (some (0, false)) (getb x.1 x.2.2.2 fun c5 => cnd (decide (c5 > 57)) (some (0, false)) (getb x.1 x.2.2.2 fun c6 => rec (x.1, W (W (10 * x.2.1) + W (IntKind.u8.wrap (c6 - 48))), x.2.2.1, W (x.2.2.2 + 1))))) (cnd (decide (x.2.1 > 1000000000000)) (some (0, false)) (some (x.2.1, true)))) :
    iter F NN (s, 0, ((s.size : Nat) : Int), 0) = some (parsed (pd s.data.toList 0)) := by
  have hl := ba_size s
  refine (iter_list0 s.data.toList (by omega) (fun k n => (s, n, ((s.size : Nat) : Int), (k : Int))) 0 (fun r _ n => some (parsed (pd r n))) rfl ?_ ?_).trans rfl
  · intro rec n
    rw [hF]
    simp only [hl]
    simp [pd, parsed, cnd_if]
    split <;> rfl
  · intro rec k c n hc hk hr
    simp only [Int.natCast_succ] at hr
    rw [hF]
    simp only [getb_at hc, show ((k : Nat) : Int) < ((s.size : Nat) : Int) by omega, decide_true, cnd_tt, W_n1 (show k ≤ 9223372036854775806 by omega), hr, pd]
    by_cases c1 : (c.toNat : Int) < 48
    · simp [c1, parsed]
    · by_cases c2 : (57 : Int) < (c.toNat : Int)
      · simp only [c1, decide_false, cnd_ff, gt_iff_lt, c2, decide_true, cnd_tt, or_true, if_true]; rfl
      · simp only [c1, c2, decide_false, cnd_ff, gt_iff_lt, or_self, if_false]
theorem iParseInt_v (s : ByteArray) (hs : s.size ≤ 1099511627776) : S_iParseInt s = some (parseInt s.data.toList) := by
  have hl := ba_size s
  unfold S_iParseInt parseInt
  simp only [hl.symm]
  by_cases h0 : s.size = 0
  · simp [h0]
  have e0 : (((s.size : Nat) : Int) == 0) = false := by rw [beq_eq_false_iff_ne]; omega
  by_cases h1 : 13 < s.size
  · have e1 : decide (((s.size : Nat) : Int) > 13) = true := by simp; omega
    simp only [e0, e1, cnd_ff, cnd_tt, h1, true_or, or_true, if_true]
  have e1 : decide (((s.size : Nat) : Int) > 13) = false := by simp; omega
  simp only [e0, e1, cnd_ff, h0, h1, false_or]
  by_cases h2 : 1 < s.size
  · have e2 : decide (((s.size : Nat) : Int) > 1) = true := by simp; omega
    have hz : s.data.toList[0]? = some s.data.toList[0] := List.getElem?_eq_getElem (by omega)
    have hg : ∀ K : Int → Option (Int × Bool), getb s 0 K = K ((s.data.toList[0]).toNat : Int) := fun K => getb_at hz K
    simp only [e2, cnd_tt, hg, h2, true_and, hz]
    by_cases c : s.data.toList[0] = 48
    · rw [c]; rfl
    · have : (((s.data.toList[0]).toNat : Int) == 48) = false := by
        simp only [beq_eq_false_iff_ne, ne_eq]
        intro h
        apply c
        have h' : (s.data.toList[0]).toNat = 48 := by omega
        exact UInt8.toNat_inj.1 h'
      simp only [this, cnd_ff, Option.some.injEq, c, if_false]
      exact digits_loop s hs fun rec x => rfl
  · have e2 : decide (((s.size : Nat) : Int) > 1) = false := by simp; omega
    simp only [e2, cnd_ff, h2, false_and, if_false]
    exact digits_loop s hs fun rec x => rfl
theorem W_rg (n : Int) : Rg (W n) := by
  have e : W n = if n % 18446744073709551616 ≥ 9223372036854775808 then n % 18446744073709551616 - 18446744073709551616 else n % 18446744073709551616 := by
    show IntKind.i64.wrap n = _
    unfold IntKind.wrap
    rw [show IntKind.i64.signed = true from rfl, show IntKind.i64.bits = 64 from rfl]
    simp only [Bool.true_and, decide_eq_true_eq]
    rfl
  rw [e]
  unfold Rg
  split <;> omega
theorem pd_rg : ∀ (u : List UInt8) (n m : Int), Rg n → pd u n = some m → Rg m
  | [], n, m, h, e => by cases e; exact h
  | c :: u, n, m, h, e => by
    rw [pd] at e
    split at e
    · cases e
    · exact pd_rg u _ m (W_rg _) e
theorem parseInt_rg (u : List UInt8) : Rg (parseInt u).1 := by
  have h0 : Rg 0 := by unfold Rg; omega
  unfold parseInt parsed
  split
  · exact h0
  · split
    · exact h0
    · rename_i n hn
      split
      · exact h0
      · exact pd_rg u 0 n h0 hn
/-! the text of a path -/
def dec : Nat → List UInt8
  | n => if n < 10 then [UInt8.ofNat (48 + n)] else [UInt8.ofNat (48 + n / 10), UInt8.ofNat (48 + n % 10)]
theorem bs_app (a b : List UInt8) : bs a ++ bs b = bs (a ++ b) := by
  apply ByteArray.ext
  apply Array.toList_inj.1
  show (bs a ++ bs b).data.toList = a ++ b
  rw [ByteArray.data_append, Array.toList_append]
  rfl
theorem itoa_dec {n : Nat} (h : n < 100) : itoaB (n : Int) = bs (dec n) := by
  by_cases h0 : n = 0
  · subst h0
    have e : Lib.decDigits 0 = [48] := by rw [Lib.decDigits]; rfl
    show (⟨(Lib.itoa 0).toArray⟩ : ByteArray) = _
    rw [show Lib.itoa 0 = Lib.decDigits 0 from rfl, e]; rfl
  rw [itoaB_eq (by omega), if_neg (by omega), Int.natAbs_natCast, dig_pos h0]
  by_cases h1 : n < 10
  · rw [show n / 10 = 0 by omega, dig_zero, bs_app, dec, if_pos h1, show n % 10 = n by omega]; rfl
  · rw [dig_pos (by omega), show n / 10 / 10 = 0 by omega, dig_zero, dec, if_neg h1, bs_app, bs_app, show n / 10 % 10 = n / 10 by omega]; rfl
theorem parse_dec : ∀ n : Fin 21, parseInt (dec n.val) = ((n.val : Int), true) := by decide
def kc (k : Int) : UInt8 := if k = 1 then 99 else if k = 2 then 119 else 98
def textOf (i : Nat) (k : Int) (a b : Nat) : List UInt8 := dec i ++ [kc k, UInt8.ofNat (48 + a), UInt8.ofNat (48 + b)]
theorem kindCh_eq (k : Int) : kindCh k = bs [kc k] := by
  unfold kindCh kc
  split <;> (try split) <;> rfl
theorem path_nat {p : Path} (h : isPath p = true) : ∃ i a b : Nat, p = ⟨(i : Int), p.kind, (a : Int), (b : Int)⟩ ∧ 1 ≤ i ∧ i ≤ 20 ∧ a ≤ 3 ∧ b ≤ 3 := by
  simp [isPath, inR] at h
  refine ⟨p.id.toNat, p.src.toNat, p.dst.toNat, ?_, by omega, by omega, by omega, by omega⟩
  cases p
  simp at h ⊢
  omega
theorem dec1 {a : Nat} (h : a < 10) : dec a = [UInt8.ofNat (48 + a)] := by rw [dec, if_pos h]
theorem pathText_eq {i a b : Nat} {k : Int} (h : isPath ⟨(i : Int), k, (a : Int), (b : Int)⟩ = true) : pathText ⟨(i : Int), k, (a : Int), (b : Int)⟩ = bs (textOf i k a b) := by
  have h' := h
  simp [isPath, inR] at h'
  unfold pathText
  rw [if_pos h, itoa_dec (by omega), itoa_dec (by omega), itoa_dec (by omega), dec1 (show a < 10 by omega), dec1 (show b < 10 by omega), kindCh_eq, bs_app, bs_app, bs_app]
  unfold textOf
  simp
theorem bs_data (l : List UInt8) : (bs l).data.toList = l := rfl
theorem bs_inj {a b : List UInt8} (h : bs a = bs b) : a = b := by
  rw [← bs_data a, h, bs_data]
theorem bs_of (s : ByteArray) : s = bs s.data.toList := by
  apply ByteArray.ext
  apply Array.toList_inj.1
  rfl
theorem dec_len (i : Nat) : 1 ≤ (dec i).length ∧ (dec i).length ≤ 2 := by
  rw [dec]; split <;> simp
theorem textOf_len (i : Nat) (k : Int) (a b : Nat) : (textOf i k a b).length = (dec i).length + 3 := by simp [textOf]
/-! the reference: the first path whose text it is -/
theorem scan_loop {V β : Type} (a n : Nat) (hn : n ≤ 1000) (st : Nat → V) (f : Nat → Option β) (K : Option β) {F : (V → Option β) → V → Option β} {v : V} (hv : v = st 0)
    (h0 : ∀ rec, F rec (st n) = K) (h1 : ∀ rec k, k < n → F rec (st k) = match f (a + k) with | some r => some r | none => rec (st (k + 1))) :
    iter F NN v = match (List.range' a n).findSome? f with | some r => some r | none => K := by
  have hl : (List.range' a n).length = n := List.length_range'
  refine (iter_list0 (List.range' a n) (by omega) (fun k (_ : Unit) => st k) () (fun s _ _ => match s.findSome? f with | some r => some r | none => K) hv ?_ ?_).trans rfl
  · intro rec _
    rw [hl, h0]; rfl
  · intro rec k x _ hx hk hr
    have hxe : x = a + k := by
      rw [List.getElem?_range' (by omega)] at hx
      have := Option.some.inj hx
      omega
    rw [h1 rec k (by omega), List.findSome?_cons, hxe]
    cases f (a + k) with
    | some r => rfl
    | none => exact hr ()
def cand (s : ByteArray) (i k x : Nat) : Option (Path × Bool) :=
  let p : Path := ⟨(i : Int), (k : Int), ((x / 4 : Nat) : Int), ((x % 4 : Nat) : Int)⟩
  if isPath p = true ∧ pathText p = s then some (p, true) else none
def search (s : ByteArray) : Option (Path × Bool) :=
  (List.range' 1 20).findSome? fun i => (List.range' 1 3).findSome? fun k => (List.range' 0 16).findSome? fun x => cand s i k x
def noPath : Path × Bool := (⟨0, 0, 0, 0⟩, false)
theorem toList_beq (a b : ByteArray) : (a.toList == b.toList) = decide (a = b) := by
  rw [ByteArray.toList_eq, ByteArray.toList_eq]
  by_cases h : a = b
  · subst h; simp
  · simp [h]
    exact fun e => h (ByteArray.ext e)
theorem sParsePath_v (s : ByteArray) : S_sParsePath s = some ((search s).getD noPath) := by
  unfold S_sParsePath search
  refine (scan_loop (β := Path × Bool) 1 20 (by omega) (fun k => ((s, ((k + 1 : Nat) : Int)), (⟨0, 0, 0, 0⟩ : Path))) (fun i => (List.range' 1 3).findSome? fun k => (List.range' 0 16).findSome? fun x => cand s i k x) (some noPath) rfl (fun rec => ?_) (fun rec i hi => ?_)).trans ?_
  · rfl
  · have e1 : decide (((i + 1 : Nat) : Int) ≤ 20) = true := by simp; omega
    simp only [e1, cnd_tt]
    refine (scan_loop (β := Path × Bool) 1 3 (by omega) (fun k => ((s, ((i + 1 : Nat) : Int), ((k + 1 : Nat) : Int)), (⟨0, 0, 0, 0⟩ : Path))) (fun k => (List.range' 0 16).findSome? fun x => cand s (1 + i) k x) (rec ((s, ((i + 1 + 1 : Nat) : Int)), (⟨0, 0, 0, 0⟩ : Path))) rfl (fun rec2 => ?_) (fun rec2 k hk => ?_)).trans ?_
    · have e2 : W (((i + 1 : Nat) : Int) + 1) = ((i + 1 + 1 : Nat) : Int) := by rw [W_id (by omega) (by omega)]; omega
      simp only [e2]
      rfl
    · have e2 : decide (((k + 1 : Nat) : Int) ≤ 3) = true := by simp; omega
      simp only [e2, cnd_tt]
      refine (scan_loop (β := Path × Bool) 0 16 (by omega) (fun x => ((s, ((i + 1 : Nat) : Int), ((k + 1 : Nat) : Int), (x : Int)), (⟨0, 0, 0, 0⟩ : Path))) (fun x => cand s (1 + i) (1 + k) x) (rec2 ((s, ((i + 1 : Nat) : Int), ((k + 1 + 1 : Nat) : Int)), (⟨0, 0, 0, 0⟩ : Path))) rfl (fun rec3 => ?_) (fun rec3 x hx => ?_)).trans ?_
      · have e3 : W (((k + 1 : Nat) : Int) + 1) = ((k + 1 + 1 : Nat) : Int) := by rw [W_id (by omega) (by omega)]; omega
        simp only [e3]
        rfl
      · have e3 : decide ((x : Int) < 16) = true := by simp; omega
        have e4 : W (Int.tdiv (x : Int) 4) = ((x / 4 : Nat) : Int) := by
          rw [show Int.tdiv (x : Int) 4 = ((x / 4 : Nat) : Int) from rfl]
          exact W_id (by omega) (by omega)
        have e5 : Int.tmod (x : Int) 4 = ((x % 4 : Nat) : Int) := rfl
        have e6 : W ((x : Int) + 1) = ((x + 1 : Nat) : Int) := by rw [W_id (by omega) (by omega)]; omega
        have e7 : ((i + 1 : Nat) : Int) = ((1 + i : Nat) : Int) := by omega
        have e8 : ((k + 1 : Nat) : Int) = ((1 + k : Nat) : Int) := by omega
        simp only [e3, cnd_tt, e4, e5, e6, e7, e8, sIsPath_v, bnd_some, Nat.zero_add, cand, toList_beq]
        cases hp : isPath (⟨((1 + i : Nat) : Int), ((1 + k : Nat) : Int), ((x / 4 : Nat) : Int), ((x % 4 : Nat) : Int)⟩ : Path) with
        | false => simp
        | true =>
          have ok : OkPath (⟨((1 + i : Nat) : Int), ((1 + k : Nat) : Int), ((x / 4 : Nat) : Int), ((x % 4 : Nat) : Int)⟩ : Path) := by
            unfold OkPath Rg
            simp only
            omega
          rw [sPathText_v _ ok, bnd_some]
          generalize (⟨((1 + i : Nat) : Int), ((1 + k : Nat) : Int), ((x / 4 : Nat) : Int), ((x % 4 : Nat) : Int)⟩ : Path) = q at hp ok ⊢
          by_cases c : pathText q = s
          · simp only [c, hp, decide_true, cnd_tt, and_self, if_true]
          · simp only [c, hp, decide_false, cnd_ff, cnd_tt, and_false, if_false]
      · rfl
    · rfl
  · cases (List.range' 1 20).findSome? _ <;> rfl
theorem textOf_inj {i i' a a' b b' : Nat} {k k' : Int} (h : textOf i k a b = textOf i' k' a' b') (hi : 1 ≤ i ∧ i ≤ 20) (hi' : 1 ≤ i' ∧ i' ≤ 20) (ha : a ≤ 3) (ha' : a' ≤ 3) (hb : b ≤ 3) (hb' : b' ≤ 3)
    (hk : k = 1 ∨ k = 2 ∨ k = 3) (hk' : k' = 1 ∨ k' = 2 ∨ k' = 3) : i = i' ∧ k = k' ∧ a = a' ∧ b = b' := by
  unfold textOf at h
  have hlen := congrArg List.length h
  simp at hlen
  obtain ⟨h1, h2⟩ := List.append_inj h hlen
  have p1 := parse_dec ⟨i, by omega⟩
  have p2 := parse_dec ⟨i', by omega⟩
  simp only at p1 p2
  rw [h1, p2] at p1
  simp only [Prod.mk.injEq] at p1
  simp only [List.cons.injEq, and_true] at h2
  have u : ∀ x y : Nat, x ≤ 3 → y ≤ 3 → UInt8.ofNat (48 + x) = UInt8.ofNat (48 + y) → x = y := by
    intro x y hx hy e
    have e' := congrArg UInt8.toNat e
    simp only [UInt8.toNat_ofNat'] at e'
    omega
  refine ⟨by omega, ?_, u a a' ha ha' h2.2.1, u b b' hb hb' h2.2.2⟩
  have h3 := h2.1
  rcases hk with rfl | rfl | rfl <;> rcases hk' with rfl | rfl | rfl <;> first | rfl | (exact absurd h3 (by decide))
/-- two valid paths of one text are one -/
theorem pathText_inj {p q : Path} (hp : isPath p = true) (hq : isPath q = true) (h : pathText p = pathText q) : p = q := by
  obtain ⟨i, a, b, e, i1, i2, a1, b1⟩ := path_nat hp
  obtain ⟨i', a', b', e', i1', i2', a1', b1'⟩ := path_nat hq
  have kp := kind_of hp
  have kq := kind_of hq
  rw [e] at hp h
  rw [e'] at hq h
  rw [pathText_eq hp, pathText_eq hq] at h
  obtain ⟨e1, e2, e3, e4⟩ := textOf_inj (bs_inj h) ⟨i1, i2⟩ ⟨i1', i2'⟩ a1 a1' b1 b1' kp kq
  rw [e, e', e1, e2, e3, e4]
theorem search_some {s : ByteArray} {r : Path × Bool} (h : search s = some r) : ∃ p, r = (p, true) ∧ isPath p = true ∧ pathText p = s := by
  unfold search at h
  obtain ⟨i, _, h⟩ := List.exists_of_findSome?_eq_some h
  obtain ⟨k, _, h⟩ := List.exists_of_findSome?_eq_some h
  obtain ⟨x, _, h⟩ := List.exists_of_findSome?_eq_some h
  unfold cand at h
  simp only at h
  split at h
  · rename_i hc
    cases h
    exact ⟨_, rfl, hc.1, hc.2⟩
  · cases h
theorem search_none {s : ByteArray} (h : search s = none) {p : Path} (hp : isPath p = true) : pathText p ≠ s := by
  intro hs
  obtain ⟨i, a, b, e, i1, i2, a1, b1⟩ := path_nat hp
  have kp := kind_of hp
  unfold search at h
  have h1 := List.findSome?_eq_none_iff.1 h i (by simp [List.mem_range']; exact ⟨i - 1, by omega, by omega⟩)
  have h2 := List.findSome?_eq_none_iff.1 h1 p.kind.toNat (by simp [List.mem_range']; exact ⟨p.kind.toNat - 1, by omega, by omega⟩)
  have h3 := List.findSome?_eq_none_iff.1 h2 (4 * a + b) (by simp [List.mem_range']; omega)
  unfold cand at h3
  have ek : ((p.kind.toNat : Nat) : Int) = p.kind := by omega
  have ea : (4 * a + b) / 4 = a := by omega
  have eb : (4 * a + b) % 4 = b := by omega
  simp only [ek, ea, eb, ← e, hp, hs, and_self, if_true] at h3
  cases h3
theorem search_of {s : ByteArray} {p : Path} (hp : isPath p = true) (h : pathText p = s) : search s = some (p, true) := by
  cases hs : search s with
  | none => exact absurd h (search_none hs hp)
  | some r =>
    obtain ⟨q, rfl, h1, h2⟩ := search_some hs
    rw [pathText_inj hp h1 (h.trans h2.symm)]
/-! the program -/
theorem ix_kc {k : Int} (hk : k = 1 ∨ k = 2 ∨ k = 3) : Lib.indexByte [99, 119, 98] (kc k) = k - 1 := by
  rcases hk with rfl | rfl | rfl <;> decide
set_option maxRecDepth 20000 in
theorem ix_rg (c : UInt8) : -1 ≤ Lib.indexByte [99, 119, 98] c ∧ Lib.indexByte [99, 119, 98] c ≤ 2 := by
  have : ∀ n : Fin 256, -1 ≤ Lib.indexByte [99, 119, 98] (UInt8.ofNat n.val) ∧ Lib.indexByte [99, 119, 98] (UInt8.ofNat n.val) ≤ 2 := by decide
  have h := this ⟨c.toNat, c.toNat_lt⟩
  simpa using h
def guess (u : List UInt8) (c1 c2 c3 : UInt8) : Path := ⟨(parseInt u).1, Lib.indexByte [99, 119, 98] c1 + 1, (c2.toNat : Int) - 48, (c3.toNat : Int) - 48⟩
theorem guess_ok (u : List UInt8) (c1 c2 c3 : UInt8) : OkPath (guess u c1 c2 c3) := by
  have h1 := parseInt_rg u
  have h2 := ix_rg c1
  have h3 := c2.toNat_lt
  have h4 := c3.toNat_lt
  unfold OkPath guess
  refine ⟨h1, ?_, ?_, ?_⟩ <;> unfold Rg <;> simp only <;> omega
theorem guess_text {i a b : Nat} {k : Int} (hi : i ≤ 20) (ha : a ≤ 3) (hb : b ≤ 3) (hk : k = 1 ∨ k = 2 ∨ k = 3) :
    guess (dec i) (kc k) (UInt8.ofNat (48 + a)) (UInt8.ofNat (48 + b)) = ⟨(i : Int), k, (a : Int), (b : Int)⟩ ∧ (parseInt (dec i)).2 = true := by
  have p1 := parse_dec ⟨i, by omega⟩
  simp only at p1
  unfold guess
  rw [p1, ix_kc hk]
  refine ⟨?_, rfl⟩
  simp only [UInt8.toNat_ofNat', Path.mk.injEq, true_and]
  omega
/-- a text's last three bytes -/
theorem split3 {u : List UInt8} (h : 4 ≤ u.length) : ∃ d c1 c2 c3, u = d ++ [c1, c2, c3] ∧ d.length = u.length - 3 := by
  refine ⟨u.take (u.length - 3), u[u.length - 3], u[u.length - 2], u[u.length - 1], ?_, by rw [List.length_take]; omega⟩
  have h1 : u.drop (u.length - 3) = [u[u.length - 3], u[u.length - 2], u[u.length - 1]] := by
    rw [List.drop_eq_getElem_cons (by omega), List.drop_eq_getElem_cons (by omega), List.drop_eq_getElem_cons (by omega), List.drop_eq_nil_of_le (by omega)]
    congr 2
    · congr 1; omega
    · congr 2; omega
  rw [← h1, List.take_append_drop]
theorem iParsePath_v (s : ByteArray) (hs : s.size ≤ 1099511627776) : S_iParsePath s = some ((search s).getD noPath) := by
  have hl := ba_size s
  unfold S_iParsePath
  by_cases h4 : s.size < 4
  · have e : decide (((s.size : Nat) : Int) < 4) = true := by simp; omega
    rw [e, cnd_tt]
    cases hq : search s with
    | none => rfl
    | some r =>
      obtain ⟨p, rfl, h1, h2⟩ := search_some hq
      obtain ⟨i, a, b, e, i1, i2, a1, b1⟩ := path_nat h1
      rw [e] at h1 h2
      rw [pathText_eq h1] at h2
      have h5 := bs_size (textOf i p.kind a b)
      rw [h2, textOf_len] at h5
      have := dec_len i
      omega
  have e : decide (((s.size : Nat) : Int) < 4) = false := by simp; omega
  obtain ⟨d, c1, c2, c3, hu, hd⟩ := split3 (u := s.data.toList) (by omega)
  have hw : W (((s.size : Nat) : Int) - 3) = ((d.length : Nat) : Int) := by rw [W_id (by omega) (by omega)]; omega
  have w1 : W (((d.length : Nat) : Int) + 1) = ((d.length + 1 : Nat) : Int) := by rw [W_id (by omega) (by omega)]; omega
  have w2 : W (((d.length : Nat) : Int) + 2) = ((d.length + 2 : Nat) : Int) := by rw [W_id (by omega) (by omega)]; omega
  have g0 : s.data.toList[d.length]? = some c1 := by rw [hu]; simp
  have g1 : s.data.toList[d.length + 1]? = some c2 := by rw [hu]; simp
  have g2 : s.data.toList[d.length + 2]? = some c3 := by rw [hu]; simp
  have hx : ByteArray.extract s (Int.toNat 0) (Int.toNat ((d.length : Nat) : Int)) = bs d := by
    apply ByteArray.ext
    apply Array.toList_inj.1
    rw [ByteArray.data_extract, Array.toList_extract, hu]
    simp
    rfl
  have hxs : (bs d).size ≤ 1099511627776 := by rw [bs_size]; omega
  have hok := guess_ok d c1 c2 c3
  have i1 := ix_rg c1
  have q1 : W (Lib.indexByte [99, 119, 98] c1 + 1) = Lib.indexByte [99, 119, 98] c1 + 1 := W_id (by omega) (by omega)
  have q2 := c2.toNat_lt
  have q3 := c3.toNat_lt
  have hix : S_strings_IndexByte (ByteArray.mk (List.toArray [99, 119, 98])) (c1.toNat : Int) = some (Lib.indexByte [99, 119, 98] c1) := by
    unfold S_strings_IndexByte
    congr 2
    rw [Int.toNat_natCast]
    exact UInt8.ofNat_toNat
  rw [e, cnd_ff, hw, ifA_pos ⟨by omega, by omega, by omega⟩, hx, iParseInt_v _ hxs, bs_data, w1, w2]
  simp only [bnd_some, getb_at g0, getb_at g1, getb_at g2, hix, q1, W_id (show -9223372036854775808 ≤ (c2.toNat : Int) by omega) (by omega), W_id (show -9223372036854775808 ≤ (c3.toNat : Int) by omega) (by omega), W_id (show -9223372036854775808 ≤ (c2.toNat : Int) - 48 by omega) (by omega), W_id (show -9223372036854775808 ≤ (c3.toNat : Int) - 48 by omega) (by omega)]
  have hg : (⟨(parseInt d).1, Lib.indexByte [99, 119, 98] c1 + 1, (c2.toNat : Int) - 48, (c3.toNat : Int) - 48⟩ : Path) = guess d c1 c2 c3 := rfl
  rw [hg, iPathText_v _ hok]
  simp only [bnd_some, toList_beq]
  cases hq : search s with
  | some r =>
    obtain ⟨p, rfl, h1, h2⟩ := search_some hq
    obtain ⟨i, a, b, e, i1, i2, a1, b1⟩ := path_nat h1
    have kp := kind_of h1
    have h1' := h1
    have h2' := h2
    rw [e] at h1' h2'
    rw [pathText_eq h1'] at h2'
    have h6 : d ++ [c1, c2, c3] = dec i ++ [kc p.kind, UInt8.ofNat (48 + a), UInt8.ofNat (48 + b)] := by
      rw [← hu, ← h2']; rfl
    obtain ⟨h7, h8⟩ := List.append_inj' h6 rfl
    simp only [List.cons.injEq, and_true] at h8
    obtain ⟨k1, k2⟩ := guess_text (i := i) (a := a) (b := b) (k := p.kind) (by omega) a1 b1 kp
    rw [h7, h8.1, h8.2.1, h8.2.2, k2, k1, ← e, h2]
    simp
  | none =>
    cases (parseInt d).2 with
    | false => rfl
    | true =>
      have hne : pathText (guess d c1 c2 c3) ≠ s := by
        intro hh
        cases hp : isPath (guess d c1 c2 c3) with
        | true => exact search_none hq hp hh
        | false =>
          unfold pathText at hh
          rw [hp] at hh
          have : s.size = 0 := by rw [← hh]; rfl
          omega
      simp [hne]
      rfl
theorem lFnExactParsePath_v (s : ByteArray) (h : s.size ≤ maxLen) : S_lFnExactParsePath s = some true := by
  unfold S_lFnExactParsePath
  by_cases hs : s.size ≤ 1048576
  · have e : decide (((s.size : Nat) : Int) > 1048576) = false := by simp; omega
    rw [e, cnd_ff, sParsePath_v, iParsePath_v s (by omega)]
    simp [cnd_if]
  · have e : decide (((s.size : Nat) : Int) > 1048576) = true := by simp; omega
    rw [e, cnd_tt]
end Go.Sh
