/- Paths that conflict. -/
import Derived.Test.YtmcfebdgbcaimaaQ3
set_option linter.all false
namespace Go.Sh
open Go.Fx
theorem NN_64 : ∃ n, NN = n + 64 := ⟨NN - 64, by rw [NN_eq]⟩
/-- whether the ways from a to b and from c to d cross, round a circle of eight -/
def crossI (a b c d : Int) : Bool := if a = b ∨ a = c ∨ a = d ∨ b = c ∨ b = d ∨ c = d then false else (decide (Int.tmod (c - a + 8) 8 < Int.tmod (b - a + 8) 8) != decide (Int.tmod (d - a + 8) 8 < Int.tmod (b - a + 8) 8))
theorem iInterleave_v {a b c d : Int} (ha : 0 ≤ a ∧ a ≤ 7) (hb : 0 ≤ b ∧ b ≤ 7) (hc : 0 ≤ c ∧ c ≤ 7) (hd : 0 ≤ d ∧ d ≤ 7) : S_iInterleave a b c d = some (crossI a b c d) := by
  unfold S_iInterleave crossI
  obtain ⟨n, hn⟩ := NN_64
  rw [hn]
  have e : ∀ K : List Int → Option Bool, rws iR [[I a], [I b], [I c], [I d]] K = K [a, b, c, d] := fun _ => rfl
  have w1 : W (c - a) = c - a := W_id (by omega) (by omega)
  have w2 : W (b - a) = b - a := W_id (by omega) (by omega)
  have w3 : W (d - a) = d - a := W_id (by omega) (by omega)
  have w4 : W (c - a + 8) = c - a + 8 := W_id (by omega) (by omega)
  have w5 : W (b - a + 8) = b - a + 8 := W_id (by omega) (by omega)
  have w6 : W (d - a + 8) = d - a + 8 := W_id (by omega) (by omega)
  simp only [e, geti_i, len_i, rws_i]
  simp [iter, iInRange_v, getZ, W_id, ha, hb, hc, hd, w1, w2, w3, w4, w5, w6, cnd_if]
  grind
def arm (n : Int) : Prop := n = 0 ∨ n = 1 ∨ n = 2 ∨ n = 3
set_option maxRecDepth 100000 in
theorem sInterleave_v {a b c d : Int} (ha : arm a) (hb : arm b) (hc : arm c) (hd : arm d) : S_sInterleave (2 * a) (2 * b + 1) (2 * c) (2 * d + 1) = some (crossI (2 * a) (2 * b + 1) (2 * c) (2 * d + 1)) := by
  unfold S_sInterleave
  obtain ⟨n, hn⟩ := NN_64
  rw [hn]
  rcases ha with rfl | rfl | rfl | rfl <;> rcases hb with rfl | rfl | rfl | rfl <;> rcases hc with rfl | rfl | rfl | rfl <;> rcases hd with rfl | rfl | rfl | rfl <;> rfl
end Go.Sh
