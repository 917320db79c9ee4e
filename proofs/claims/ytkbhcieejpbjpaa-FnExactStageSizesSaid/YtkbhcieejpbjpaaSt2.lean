/- Stages: bits, and the program's loops. -/
import Derived.Test.YtkbhcieejpbjpaaSt1
set_option linter.all false
namespace Go.Sh
open Go.Fx
theorem bv_nat (m : Nat) (h : m < 4611686018427387904) : (BitVec.ofInt (IntKind.bits .i64) (m : Int)).toNat = m := by
  show (BitVec.ofInt 64 (m : Int)).toNat = m
  rw [BitVec.toNat_ofInt]
  omega
theorem lt62 {m k : Nat} (h : m < 2 ^ k) (hk : k ≤ 62) : m < 4611686018427387904 := Nat.lt_of_lt_of_le h (by
  have := Nat.pow_le_pow_right (show 1 ≤ 2 by decide) hk
  exact this)
theorem or_nat {m j k : Nat} (hm : m < 2 ^ k) (hj : j < 2 ^ k) (hk : k ≤ 62) : W ((BitVec.toNat (BitVec.ofInt (IntKind.bits .i64) (m : Int) ||| BitVec.ofInt (IntKind.bits .i64) (j : Int)) : Nat) : Int) = ((m ||| j : Nat) : Int) := by
  rw [BitVec.toNat_or, bv_nat m (lt62 hm hk), bv_nat j (lt62 hj hk)]
  have := lt62 (Nat.or_lt_two_pow hm hj) hk
  exact W_id (by omega) (by omega)
theorem and_nat {m j : Nat} (hm : m < 4611686018427387904) (hj : j < 4611686018427387904) : W ((BitVec.toNat (BitVec.ofInt (IntKind.bits .i64) (m : Int) &&& BitVec.ofInt (IntKind.bits .i64) (j : Int)) : Nat) : Int) = ((m &&& j : Nat) : Int) := by
  rw [BitVec.toNat_and, bv_nat m hm, bv_nat j hj]
  have := Nat.and_le_left (n := m) (m := j)
  exact W_id (by omega) (by omega)
theorem pow_nat {j : Nat} (hj : j ≤ 12) : W ((1 : Int) * ((2 : Int) ^ (Min.min (Int.toNat (j : Int)) (IntKind.bits .i64)))) = ((2 ^ j : Nat) : Int) := by
  rw [Int.toNat_natCast, show Min.min j (IntKind.bits .i64) = j from Nat.min_eq_left (by show j ≤ 64; omega), Int.one_mul]
  have h : 2 ^ j ≤ 2 ^ 12 := Nat.pow_le_pow_right (by decide) hj
  have e : ((2 : Int) ^ j) = ((2 ^ j : Nat) : Int) := by simp
  rw [e]
  generalize (2 : Nat) ^ j = m at h ⊢
  exact W_id (by omega) (by omega)
theorem shr_nat {s i : Nat} (hi : i ≤ 12) : Int.fdiv (s : Int) ((2 : Int) ^ (Min.min (Int.toNat (i : Int)) (IntKind.bits .i64))) = ((s >>> i : Nat) : Int) := by
  rw [Int.toNat_natCast, show Min.min i (IntKind.bits .i64) = i from Nat.min_eq_left (by show i ≤ 64; omega), Nat.shiftRight_eq_div_pow]
  rw [Int.fdiv_eq_ediv_of_nonneg _ (by exact Int.pow_nonneg (by decide))]
  simp
theorem bit_in {s i : Nat} (hs : s < 4611686018427387904) (hi : i ≤ 12) : (W ((BitVec.toNat (BitVec.ofInt (IntKind.bits .i64) (Int.fdiv (s : Int) ((2 : Int) ^ (Min.min (Int.toNat (i : Int)) (IntKind.bits .i64)))) &&& BitVec.ofInt (IntKind.bits .i64) (1 : Int)) : Nat) : Int) == 1) = s.testBit i := by
  have h1 : s >>> i ≤ s := by rw [Nat.shiftRight_eq_div_pow]; exact Nat.div_le_self _ _
  rw [shr_nat hi, show (1 : Int) = ((1 : Nat) : Int) from rfl, and_nat (by omega) (by decide), Nat.testBit, Nat.and_comm]
  rw [Nat.and_comm, Nat.and_one_is_mod]
  rcases Nat.mod_two_eq_zero_or_one (s >>> i) with h | h <;> rw [h] <;> rfl
def fc (l : List Path) (p : Path) (j : Nat) : Bool := match l[j]? with | some q => conflict p q | none => false
theorem and_zero {l : List Path} {p : Path} {s : Nat} : (((mk (fc l p) l.length &&& s : Nat) : Int) == 0) = l.zipIdx.all fun y => !(s.testBit y.2 && conflict p y.1) := by
  rw [Bool.eq_iff_iff, beq_iff_eq, List.all_eq_true]
  constructor
  · intro h y hy
    have h0 : mk (fc l p) l.length &&& s = 0 := by omega
    obtain ⟨q, j⟩ := y
    rw [List.mem_zipIdx_iff_getElem?] at hy
    have hb : (mk (fc l p) l.length &&& s).testBit j = false := by rw [h0]; exact Nat.zero_testBit j
    rw [Nat.testBit_and, mk_bit, show fc l p j = conflict p q by unfold fc; rw [hy], decide_eq_true (List.getElem?_eq_some_iff.1 hy).1, Bool.true_and] at hb
    simp only
    rw [Bool.and_comm, hb]; rfl
  · intro h
    have : mk (fc l p) l.length &&& s = 0 := by
      refine Nat.eq_of_testBit_eq fun j => ?_
      rw [Nat.zero_testBit, Nat.testBit_and, mk_bit]
      by_cases hj : j < l.length
      · have hx := List.getElem?_eq_getElem hj
        have := h (l[j], j) (by rw [List.mem_zipIdx_iff_getElem?]; exact hx)
        simp only at this
        rw [decide_eq_true hj, Bool.true_and, show fc l p j = conflict p l[j] by unfold fc; rw [hx], Bool.and_comm]
        cases hb : s.testBit j with
        | false => rfl
        | true => rw [hb] at this; simpa using this
      · rw [decide_eq_false hj]; rfl
    rw [this]; rfl
end Go.Sh
