/- Paths that conflict, second part; lists of ints. -/
import Derived.Test.YtmcfebdgbcaimaaC1
set_option linter.all false
namespace Go.Sh
open Go.Fx
def conflict (a b : Path) : Bool :=
  if isPath a = false ∨ isPath b = false then false
  else if a.kind = 2 ∧ b.kind = 2 then false
  else if a.kind = 2 then b.src == a.src || b.dst == a.src
  else if b.kind = 2 then a.src == b.src || a.dst == b.src
  else if a.src = b.src then false
  else if a.dst = b.dst then true
  else crossI (2 * a.src) (2 * a.dst + 1) (2 * b.src) (2 * b.dst + 1)
theorem arm_src {p : Path} (h : isPath p = true) : arm p.src := by
  simp [isPath, inR] at h
  unfold arm; omega
theorem arm_dst {p : Path} (h : isPath p = true) : arm p.dst := by
  simp [isPath, inR] at h
  unfold arm; omega
theorem arm_rg {n : Int} (h : arm n) : 0 ≤ n ∧ n ≤ 3 := by unfold arm at h; omega
theorem sInPlace_v {n : Int} (h : arm n) : S_sInPlace n = some (2 * n) := by rcases h with rfl | rfl | rfl | rfl <;> rfl
theorem sOutPlace_v {n : Int} (h : arm n) : S_sOutPlace n = some (2 * n + 1) := by rcases h with rfl | rfl | rfl | rfl <;> rfl
theorem iInPlace_v {n : Int} (h : arm n) : S_iInPlace n = some (2 * n) := by rcases h with rfl | rfl | rfl | rfl <;> rfl
theorem iOutPlace_v {n : Int} (h : arm n) : S_iOutPlace n = some (2 * n + 1) := by rcases h with rfl | rfl | rfl | rfl <;> rfl
theorem sConflict_v (a b : Path) : S_sConflict a b = some (conflict a b) := by
  unfold S_sConflict conflict
  simp only [sIsPath_v, bnd_some]
  cases ha : isPath a with
  | false => simp
  | true =>
  cases hb : isPath b with
  | false => simp
  | true =>
  simp [sInPlace_v (arm_src ha), sOutPlace_v (arm_dst ha), sInPlace_v (arm_src hb), sOutPlace_v (arm_dst hb), sInterleave_v (arm_src ha) (arm_dst ha) (arm_src hb) (arm_dst hb), cnd_if]
  grind
theorem iConflict_v (a b : Path) : S_iConflict a b = some (conflict a b) := by
  unfold S_iConflict conflict
  simp only [iIsPath_v, bnd_some]
  cases ha : isPath a with
  | false => simp
  | true =>
  cases hb : isPath b with
  | false => simp
  | true =>
  have r1 := arm_rg (arm_src ha)
  have r2 := arm_rg (arm_dst ha)
  have r3 := arm_rg (arm_src hb)
  have r4 := arm_rg (arm_dst hb)
  have hi := iInterleave_v (a := 2 * a.src) (b := 2 * a.dst + 1) (c := 2 * b.src) (d := 2 * b.dst + 1) (by omega) (by omega) (by omega) (by omega)
  have hz : a.src = b.src → crossI (2 * a.src) (2 * a.dst + 1) (2 * b.src) (2 * b.dst + 1) = false := fun h => by simp [crossI, h]
  simp [iInPlace_v (arm_src ha), iOutPlace_v (arm_dst ha), iInPlace_v (arm_src hb), iOutPlace_v (arm_dst hb), hi, cnd_if]
  grind

def has (l : List Int) (n : Int) : Bool := l.any fun x => x == n
theorem sl6Has_v (l : List Int) (n : Int) (h : Sm l) : S_sl6Has l n = some (has l n) := by
  unfold Sm at h
  unfold S_sl6Has has
  simp
  refine (iter_list0 l (by omega) (fun k (_ : Unit) => (l, n, (k : Int))) () (fun s _ _ => some (s.any fun x => x == n)) rfl ?_ ?_).trans (by simp)
  · intro rec _; simp
  · intro rec k x _ hx hk hr
    have hr' := hr ()
    simp only [Int.natCast_succ] at hr'
    simp [hk, getZ_at hx, W_n1 (show k ≤ 9223372036854775806 by omega), cnd_if]
    by_cases e : x = n
    · simp [e]
    · simp [e, hr']
/-- where a loop finds it -/
theorem findIdx_some' {α : Type} (p : α → Bool) : ∀ l : List α, (l.findIdx? p).isSome = l.any p
  | [] => rfl
  | x :: l => by
    rw [List.findIdx?_cons, List.any_cons]
    cases p x with
    | true => rfl
    | false => simp [findIdx_some' p l]
theorem slices_Contains_int_int_v (l : List Int) (n : Int) (h : Sm l) : S_slices_Contains_int_int l n = some (has l n) := by
  unfold Sm at h
  unfold S_slices_Contains_int_int S_slices_Index_int_int has
  simp
  generalize hI : iter (_ : (List Int × Int × Int × Int → Option Int) → _ → Option Int) NN _ = I
  have hI' : I = match l.findIdx? (fun x => x == n) with | some i => some (i : Int) | none => some (-1) := by
    rw [← hI]
    refine (iter_list0 l (by omega) (fun k (_ : Unit) => (l, n, (l.length : Int), (k : Int))) () (fun s k _ => match s.findIdx? (fun x => x == n) with | some i => some ((k + i : Nat) : Int) | none => some (-1)) rfl ?_ ?_).trans (by cases l.findIdx? _ <;> simp)
    · intro rec _; simp
    · intro rec k x _ hx hk hr
      have hr' := hr ()
      simp only [Int.natCast_succ] at hr'
      rw [List.findIdx?_cons]
      simp [hk, getZ_at hx, W_n1 (show k ≤ 9223372036854775806 by omega), cnd_if]
      by_cases e : x = n
      · simp [e]
      · rw [if_neg (fun h => e h.symm), hr']
        simp [e]
        cases (l.drop (k + 1)).findIdx? (fun x => x == n) with
        | none => simp
        | some i => simp; omega
  rw [hI', ← findIdx_some']
  cases l.findIdx? (fun x => x == n) <;> simp
end Go.Sh
