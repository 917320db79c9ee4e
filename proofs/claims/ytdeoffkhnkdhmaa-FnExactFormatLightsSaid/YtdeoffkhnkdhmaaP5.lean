/- Texts that are put together: FormatLights. -/
import Derived.Test.YtdeoffkhnkdhmaaP2
set_option linter.all false
namespace Go.Sh
open Go.Fx

def bs (l : List UInt8) : ByteArray := ⟨l.toArray⟩
theorem bs_eq (l : List UInt8) : ByteArray.mk l.toArray = bs l := rfl
theorem bs_size (l : List UInt8) : (bs l).size = l.length := rfl
def dash : ByteArray := bs [45]
def jn (a b : ByteArray) (r : List ByteArray) : ByteArray := r.foldl (fun a x => a ++ b ++ x) a
def joined (l : List ByteArray) (b : ByteArray) : ByteArray := match l with | [] => dash | x :: r => jn x b r
def tot (l : List ByteArray) (b : ByteArray) : Nat := (l.map (fun x => x.size + b.size)).sum
theorem tot_cons (x : ByteArray) (l : List ByteArray) (b : ByteArray) : tot (x :: l) b = x.size + b.size + tot l b := by simp [tot]

theorem jn_data (b : ByteArray) : ∀ (r : List ByteArray) (a : ByteArray), (jn a b r).data.toList = a.data.toList ++ Lib.joinTail b.data.toList (r.map (·.data.toList))
  | [], a => by simp [jn, Lib.joinTail]
  | x :: r, a => by
    show (jn (a ++ b ++ x) b r).data.toList = _
    rw [jn_data b r]
    simp [Lib.joinTail]
theorem joinB_cons (x : ByteArray) (r : List ByteArray) (b : ByteArray) : joinB (x :: r) b = jn x b r := by
  have h : (joinB (x :: r) b).data.toList = (jn x b r).data.toList := by
    rw [jn_data]
    show (Lib.join _ _).toArray.toList = _
    rw [List.map_cons, Lib.join_cons]
  have h2 : (joinB (x :: r) b).data = (jn x b r).data := Array.toList_inj.1 h
  exact ByteArray.ext h2
theorem jn_size (b : ByteArray) : ∀ (r : List ByteArray) (a : ByteArray), (jn a b r).size = a.size + tot r b
  | [], a => by simp [jn, tot]
  | x :: r, a => by
    show (jn (a ++ b ++ x) b r).size = _
    rw [jn_size b r, tot_cons, ByteArray.size_append, ByteArray.size_append]
    omega
theorem join_len (x : ByteArray) (r : List ByteArray) (b : ByteArray) : (Lib.join ((x :: r).map (·.data.toList)) b.data.toList).length = x.size + tot r b := by
  have h := jn_size b r x
  rw [← joinB_cons] at h
  exact h

theorem ijoined_v (l : List ByteArray) (b : ByteArray) (h : l.length ≤ 1099511627776) (ht : tot l b ≤ 1099511627776) : S_ijoined l b = some (joined l b) := by
  unfold S_ijoined
  cases l with
  | nil => rfl
  | cons x r =>
    have hj : S_strings_Join (x :: r) b = some (jn x b r) := by
      unfold S_strings_Join
      rw [tot_cons] at ht
      rw [ifA_pos ⟨by omega, by rw [join_len]; omega⟩, joinB_cons]
    simp [hj]
    rw [show (((r.length : Int) + 1) == 0) = false by simp; omega]
    rfl
theorem sl39Join_v (l : List ByteArray) (b : ByteArray) (h : l.length ≤ 1099511627776) (ht : tot l b ≤ 1099511627776) : S_sl39Join l b = some (joined l b) := by
  unfold S_sl39Join
  simp
  refine (iter_listJ l (by omega) (fun k acc => (l, b, acc, (k : Int))) (bs []) (fun k acc => (k = 0 → acc = bs []) ∧ acc.size + tot (l.drop k) b ≤ 1099511627776) ⟨fun _ => rfl, by simpa [bs_size] using ht⟩
    (fun s k acc => some (if l.length = 0 then dash else if k = 0 then (match s with | [] => acc | x :: r => jn (acc ++ x) b r) else jn acc b s)) rfl ?_ ?_).trans ?_
  · intro rec acc hJ
    simp [cnd_if]
    by_cases h0 : l = []
    · simp [h0]; rfl
    · simp [h0, jn]
  · intro rec k x acc hJ hx hk hr
    simp only [Int.natCast_succ] at hr
    have hl0 : ¬ l = [] := by rintro rfl; simp at hk
    obtain ⟨hJ0, hJ1⟩ := hJ
    rw [show l.drop k = x :: l.drop (k + 1) by
      have := (List.getElem?_eq_some_iff.1 hx).2
      rw [List.drop_eq_getElem_cons hk, this], tot_cons] at hJ1
    simp [hk, getZ_at hx, W_n1 (show k ≤ 9223372036854775806 by omega), hl0]
    by_cases h0 : k = 0
    · subst h0
      simp
      rw [ifA_pos (by omega)]
      have := hr (acc ++ x) ⟨by omega, by rw [ByteArray.size_append]; omega⟩
      simp [hl0] at this
      simpa using this
    · simp [h0, show 0 < k by omega]
      rw [ifA_pos (by omega), ifA_pos (by omega)]
      have := hr (acc ++ b ++ x) ⟨by omega, by rw [ByteArray.size_append, ByteArray.size_append]; omega⟩
      simp [hl0] at this
      simpa [jn] using this
  · cases l with
    | nil => rfl
    | cons x r => simp [joined]; rw [show bs [] ++ x = x from by apply ByteArray.ext; simp [bs]]
end Go.Sh
