/- Stages: the program's loops. -/
import Derived.Test.YtkbhcieejpbjpaaSt2
set_option linter.all false
namespace Go.Sh
open Go.Fx
theorem iter_fix {V β : Type} {F : (V → Option β) → V → Option β} {v : V} (N : Nat) (hN : N ≤ 1099511627776) (st : Nat → V) (J : Nat → Prop) (hJ : J 0) (R : Option β) (hv : v = st 0)
    (h0 : ∀ rec, J N → F rec (st N) = R) (h1 : ∀ rec k, k < N → J k → (J (k + 1) → rec (st (k + 1)) = R) → F rec (st k) = R) : iter F NN v = R := by
  refine iter_listJ (List.range N) (by rw [List.length_range]; omega) (fun k (_ : Unit) => st k) () (fun k _ => J k) hJ (fun _ _ _ => R) hv ?_ ?_
  · intro rec _ h
    rw [List.length_range] at h ⊢
    exact h0 rec h
  · intro rec k x _ hJ hx hk hr
    rw [List.length_range] at hk
    exact h1 rec k hk hJ fun h => hr () h
def agl (l : List Path) (i : Nat) : List Int := (List.range l.length).map fun k => if k < i then ((mk (fc l (l.getD k default)) l.length : Nat) : Int) else 0
theorem agl_len (l : List Path) (i : Nat) : (agl l i).length = l.length := by unfold agl; simp
theorem agl_at {l : List Path} {i k : Nat} (hk : k < l.length) : (agl l i)[k]? = some (if k < i then ((mk (fc l (l.getD k default)) l.length : Nat) : Int) else 0) := by
  unfold agl
  rw [List.getElem?_map, List.getElem?_range hk]
  rfl
theorem agl_zero (l : List Path) : agl l 0 = List.replicate l.length 0 := by
  unfold agl
  apply List.ext_getElem
  · simp
  · intro i h1 h2
    simp
theorem agl_set0 {l : List Path} {i : Nat} (hi : i < l.length) : (agl l i).set i 0 = agl l i := by
  apply List.ext_getElem?
  intro k
  rw [List.getElem?_set]
  split
  · rename_i e
    subst e
    rw [if_pos (by rw [agl_len]; exact hi), agl_at hi, if_neg (by omega)]
  · rfl
theorem agl_succ {l : List Path} {i : Nat} {p : Path} (hi : l[i]? = some p) : (agl l i).set i ((mk (fc l p) l.length : Nat) : Int) = agl l (i + 1) := by
  have hlt := (List.getElem?_eq_some_iff.1 hi).1
  apply List.ext_getElem?
  intro k
  rw [List.getElem?_set]
  by_cases hk : k < l.length
  · rw [agl_at hk]
    split
    · rename_i e
      subst e
      rw [agl_at hlt, if_pos (Nat.lt_succ_self i), List.getD_eq_getElem?_getD, hi]
      simp [agl_len, hlt]
    · rename_i e
      rw [agl_at hk]
      by_cases c : k < i
      · rw [if_pos c, if_pos (by omega)]
      · rw [if_neg c, if_neg (by omega)]
  · rw [if_neg (by omega), List.getElem?_eq_none (by rw [agl_len]; omega), List.getElem?_eq_none (by rw [agl_len]; omega)]
def goodAt (l : List Path) (set : Nat) (x : Path × Nat) : Bool := set.testBit x.2 == l.zipIdx.all fun y => !(set.testBit y.2 && conflict x.1 y.1)
def idsTo (l : List Path) (set k : Nat) : List Int := ((l.zipIdx.take k).filter fun x => set.testBit x.2).map fun x => x.1.id
theorem zipx_at {l : List Path} {k : Nat} {p : Path} (h : l[k]? = some p) : l.zipIdx[k]? = some (p, k) := by
  rw [List.getElem?_zipIdx, h]; simp
theorem idsTo_succ {l : List Path} {set k : Nat} {p : Path} (h : l[k]? = some p) : idsTo l set (k + 1) = if set.testBit k = true then idsTo l set k ++ [p.id] else idsTo l set k := by
  unfold idsTo
  rw [List.take_add_one, zipx_at h, List.filter_append, List.map_append]
  cases hb : set.testBit k with
  | true => simp [hb]
  | false => simp [hb]
theorem idsTo_len (l : List Path) (set k : Nat) : (idsTo l set k).length ≤ l.length := by
  unfold idsTo
  rw [List.length_map]
  refine Nat.le_trans (List.length_filter_le _ _) ?_
  rw [List.length_take, List.length_zipIdx]
  omega
def outTo (l : List Path) (k : Nat) : List (List Int) := (List.range' 1 k).filterMap fun set => if goodM l set = true then some (idsM l set) else none
theorem outTo_succ (l : List Path) (k : Nat) : outTo l (k + 1) = if goodM l (k + 1) = true then outTo l k ++ [idsM l (k + 1)] else outTo l k := by
  unfold outTo
  rw [List.range'_concat, List.filterMap_append]
  simp only [Nat.one_mul, Nat.add_comm 1 k]
  cases hg : goodM l (k + 1) with
  | true => simp [hg]
  | false => simp [hg]
theorem outTo_len (l : List Path) (k : Nat) : (outTo l k).length ≤ k := by
  unfold outTo
  refine Nat.le_trans (List.length_filterMap_le _ _) ?_
  rw [List.length_range']
  exact Nat.le_refl _
@[simp] theorem frzss_il (l : List (List Int)) : frzss (l.map (rOne (rX Own.own 1 iR)).enc) = l.map (rOne (rX Own.own 1 iR)).enc := frzss_map (fun _ => rfl) l
theorem seti (l : List Int) (i : Nat) (v : Int) {β : Type} (K : List Int → Option β) : rws iR ((l.map iR.enc).set i [I v]) K = K (l.set i v) := by
  have e : (l.map iR.enc).set i [I v] = (l.set i v).map iR.enc := (List.map_set (f := iR.enc) (l := l) (i := i) (a := v)).symm
  rw [e, rws_i]
theorem appi (l : List Int) (v : Int) {β : Type} (K : List Int → Option β) : rws iR (l.map iR.enc ++ [[I v]]) K = K (l ++ [v]) := rws_app_i' l v K
theorem W1 {n : Nat} (h : n ≤ 4000000000) : W ((n : Int) + 1) = ((n + 1 : Nat) : Int) := by rw [W_n1 (by omega)]; omega
theorem repi (n : Nat) {β : Type} (K : List Int → Option β) : rws iR (List.replicate ((n : Nat) : Int).toNat [I 0]) K = K (List.replicate n 0) := by
  have e : List.replicate ((n : Nat) : Int).toNat [I 0] = (List.replicate n (0 : Int)).map iR.enc := by
    rw [Int.toNat_natCast]
    induction n with
    | zero => rfl
    | succ n ih => rw [List.replicate_succ, List.replicate_succ, ih]; rfl
  rw [e, rws_i]
theorem n_iv {β : Type} (l : List Int) (n : Nat) (K : Int → Option β) : n_i l n K = getN l n K := getn_i l n K
theorem iStagesOf_v (l : List Path) (h : Sm l) : S_iStagesOf l = some (stagesOf l) := by
  unfold S_iStagesOf
  simp only [rws_path, rws_i, rws_il_oo, rws_il_so, len_path, len_i, len_il, iArePaths_v l h, bnd_some, geti_path, iConflict_v, frzss_il, repi]
  cases ha : arePaths l with
  | false => unfold stagesOf; rw [ha]; rfl
  | true =>
  have hn := are_len ha
  rw [Bool.not_true, cnd_ff, ifA_pos (by simp; omega), stagesOf_brute ha]
  have hpow : 2 ^ l.length ≤ 4096 := Nat.pow_le_pow_right (n := 2) (by decide) hn
  have hpow1 : 1 ≤ 2 ^ l.length := Nat.one_le_two_pow
  refine iter_fix l.length (by omega) (fun i => ((l, [], l, ((l.length : Nat) : Int), (i : Int)), agl l i)) (fun _ => True) trivial _ (by rw [agl_zero]; rfl) ?_ ?_
  · intro rec _
    simp only
    rw [show decide (((l.length : Nat) : Int) < ((l.length : Nat) : Int)) = false from decide_eq_false (by omega), cnd_ff]
    refine iter_fix (2 ^ l.length - 1) (by omega) (fun k => ((l, outTo l k, ((k + 1 : Nat) : Int)), agl l l.length)) (fun _ => True) trivial _ rfl ?_ ?_
    · intro rec _
      simp only
      rw [pow_nat hn, show decide (((2 ^ l.length - 1 + 1 : Nat) : Int) < ((2 ^ l.length : Nat) : Int)) = false from decide_eq_false (by
        generalize 2 ^ l.length = m at hpow1 ⊢
        omega), cnd_ff]
      have hb : outTo l (2 ^ l.length - 1) = brute l := rfl
      have hbl : (brute l).length ≤ 4096 := by
        rw [← hb]
        exact Nat.le_trans (outTo_len _ _) (by omega)
      rw [hb]
      unfold S_slices_SortFunc_int_int
      rw [ifA_pos (by omega), bnd_some]
      have hsl : (sortL (brute l)).length = (brute l).length := (sortL_perm _).length_eq
      generalize sortL (brute l) = S at hsl ⊢
      by_cases c : 40 < S.length
      · rw [if_pos (by omega), ifA_pos (by omega), show (40 : Int).toNat = 40 from rfl, show Int.toNat 0 = 0 from rfl, List.drop_zero, take_il, rws_il_so]
      · rw [if_neg (by omega), ifA_pos (by omega), Int.toNat_natCast, show Int.toNat 0 = 0 from rfl, List.drop_zero, take_il, rws_il_so, List.take_of_length_le (Nat.le_refl _), List.take_of_length_le (by omega)]
    · intro rec k hk _ hr
      have hr := hr trivial
      simp only
      have hks : k + 1 < 2 ^ l.length := by omega
      rw [pow_nat hn, show decide (((k + 1 : Nat) : Int) < ((2 ^ l.length : Nat) : Int)) = true from decide_eq_true (by
        generalize 2 ^ l.length = m at hks ⊢
        omega), cnd_tt]
      refine iter_fix l.length (by omega) (fun i => ((l, outTo l k, ((k + 1 : Nat) : Int), true, idsTo l (k + 1) i, l, ((l.length : Nat) : Int), (i : Int)), agl l l.length)) (fun i => ∀ x ∈ l.zipIdx.take i, goodAt l (k + 1) x = true) (by simp) _ (by unfold idsTo; simp) ?_ ?_
      · intro rec2 hJ
        simp only
        rw [show decide (((l.length : Nat) : Int) < ((l.length : Nat) : Int)) = false from decide_eq_false (by omega), cnd_ff, cnd_tt]
        have hol := outTo_len l k
        have hg : goodM l (k + 1) = true := by
          unfold goodM
          refine List.all_eq_true.2 fun x hx => hJ x ?_
          rw [List.take_of_length_le (by simp)]
          exact hx
        have hid : idsTo l (k + 1) l.length = idsM l (k + 1) := by
          unfold idsTo idsM
          rw [List.take_of_length_le (by simp)]
        rw [ifA_pos (by simp; omega), appe_ilo (o := .own) (p := .own) (q := .own) rfl rfl, W1 (by omega), hid]
        rw [outTo_succ, if_pos hg] at hr
        exact hr
      · intro rec2 i hi hJ hr2
        simp only
        have hx := List.getElem?_eq_getElem hi
        generalize l[i] = p at hx
        rw [show decide ((i : Int) < ((l.length : Nat) : Int)) = true from decide_eq_true (by omega), cnd_tt, getZ_at hx, ifA_pos (by omega), ifA_pos (by rw [agl_len]; omega)]
        simp only [Int.toNat_natCast]
        have hag : (agl l l.length)[i]? = some ((mk (fc l p) l.length : Nat) : Int) := by
          rw [agl_at hi, if_pos hi, List.getD_eq_getElem?_getD, hx]
          rfl
        have hbi := bit_in (s := k + 1) (i := i) (by omega) (by omega)
        rw [Int.toNat_natCast] at hbi
        rw [n_iv, getN_at hag, hbi, and_nat (lt62 (mk_lt _ _) (by omega)) (by omega), and_zero, W1 (by omega)]
        have hgd : goodAt l (k + 1) (p, i) = ((k + 1).testBit i == l.zipIdx.all fun y => !((k + 1).testBit y.2 && conflict p y.1)) := rfl
        have hmem : (p, i) ∈ l.zipIdx := by rw [List.mem_zipIdx_iff_getElem?]; exact hx
        cases hb : ((k + 1).testBit i != l.zipIdx.all fun y => !((k + 1).testBit y.2 && conflict p y.1)) with
        | true =>
          rw [cnd_tt]
          have hng : goodM l (k + 1) = false := by
            cases hg : goodM l (k + 1) with
            | false => rfl
            | true =>
              have := List.all_eq_true.1 hg (p, i) hmem
              simp only at this
              unfold bne at hb
              rw [this] at hb
              cases hb
          rw [outTo_succ, hng, if_neg (by decide)] at hr
          exact hr
        | false =>
          rw [cnd_ff]
          have hJ' : ∀ x ∈ l.zipIdx.take (i + 1), goodAt l (k + 1) x = true := fun x hx' => by
            rw [List.take_add_one, zipx_at hx] at hx'
            rcases List.mem_append.1 hx' with h1 | h1
            · exact hJ x h1
            · have : x = (p, i) := by simpa using h1
              subst this
              rw [hgd]
              unfold bne at hb
              simpa using hb
          have hr3 := hr2 hJ'
          rw [idsTo_succ hx] at hr3
          have hil := idsTo_len l (k + 1) i
          cases hbit : (k + 1).testBit i with
          | true =>
            rw [cnd_tt, ifA_pos (by simp; omega), appi, W1 (by omega)]
            rw [hbit, if_pos rfl] at hr3
            exact hr3
          | false =>
            rw [cnd_ff, W1 (by omega)]
            rw [hbit, if_neg (by decide)] at hr3
            exact hr3
  · intro rec i hi _ hr
    have hr := hr trivial
    simp only
    have hx := List.getElem?_eq_getElem hi
    generalize l[i] = p at hx
    rw [show decide ((i : Int) < ((l.length : Nat) : Int)) = true from decide_eq_true (by omega), cnd_tt, getZ_at hx]
    refine iter_fix l.length (by omega) (fun j => ((l, [], (i : Int), l, ((l.length : Nat) : Int), (i : Int), l, ((l.length : Nat) : Int), (j : Int)), p, (agl l i).set i ((mk (fc l p) j : Nat) : Int))) (fun _ => True) trivial _ (by rw [show ((mk (fc l p) 0 : Nat) : Int) = 0 from rfl, agl_set0 hi]; rfl) ?_ ?_
    · intro rec2 _
      simp only
      rw [show decide (((l.length : Nat) : Int) < ((l.length : Nat) : Int)) = false from decide_eq_false (by omega), cnd_ff, agl_succ hx, W1 (by omega)]
      exact hr
    · intro rec2 j hj _ hr2
      have hr2 := hr2 trivial
      simp only
      have hy := List.getElem?_eq_getElem hj
      generalize l[j] = q at hy
      rw [show decide ((j : Int) < ((l.length : Nat) : Int)) = true from decide_eq_true (by omega), cnd_tt, getZ_at hy, W1 (by omega)]
      have hf : fc l p j = conflict p q := by unfold fc; rw [hy]
      have hmk : mk (fc l p) (j + 1) = mk (fc l p) j ||| (if fc l p j = true then 2 ^ j else 0) := rfl
      rw [hmk, hf] at hr2
      cases hc : conflict p q with
      | false =>
        rw [cnd_ff]
        rw [hc, if_neg (by decide), Nat.or_zero] at hr2
        exact hr2
      | true =>
        rw [hc, if_pos rfl] at hr2
        rw [cnd_tt, ifA_pos (by rw [List.length_set, agl_len]; omega)]
        simp only [Int.toNat_natCast]
        have hag : ((agl l i).set i ((mk (fc l p) j : Nat) : Int))[i]? = some ((mk (fc l p) j : Nat) : Int) := by
          rw [List.getElem?_set, if_pos rfl, if_pos (by rw [agl_len]; exact hi)]
        rw [n_iv, getN_at hag, ifA_pos (by omega), ifA_pos (by rw [List.length_set, agl_len]; omega), n_iv, getN_at hag, seti, List.set_set]
        have hlt : mk (fc l p) j < 2 ^ 12 := Nat.lt_of_lt_of_le (mk_lt _ _) (Nat.pow_le_pow_right (by decide) (by omega))
        have hpj : 2 ^ j < 2 ^ 12 := Nat.pow_lt_pow_right (by decide) (by omega)
        have hpw := pow_nat (j := j) (by omega)
        rw [Int.toNat_natCast] at hpw
        rw [hpw, or_nat hlt hpj (by omega)]
        exact hr2
end Go.Sh
