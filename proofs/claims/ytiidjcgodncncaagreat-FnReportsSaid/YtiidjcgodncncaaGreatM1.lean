/- The draws: what they give is small. -/
import Derived.Test.YtiidjcgodncncaaGreatQR
set_option linter.all false
namespace Go.Sh
open Go.Fx
def CurOk (g : L1Cur) : Prop := g.b.length ≤ 1048576 ∧ 0 ≤ g.i ∧ g.i ≤ g.b.length
def Gives {α : Type} (x : Option (α × L1Cur)) (P : α → Prop) : Prop := ∃ a g, x = some (a, g) ∧ P a ∧ CurOk g
theorem and255 (a : BitVec (Go.IntKind.bits Go.IntKind.i64)) : 0 ≤ W (BitVec.toNat (a &&& BitVec.ofInt (Go.IntKind.bits Go.IntKind.i64) 255)) ∧ W (BitVec.toNat (a &&& BitVec.ofInt (Go.IntKind.bits Go.IntKind.i64) 255)) ≤ 255 := by
  have h1 : BitVec.toNat (a &&& BitVec.ofInt (Go.IntKind.bits Go.IntKind.i64) 255) ≤ 255 := by
    rw [BitVec.toNat_and]
    have : BitVec.toNat (BitVec.ofInt (Go.IntKind.bits Go.IntKind.i64) 255) = 255 := by decide
    rw [this]
    exact Nat.and_le_right
  rw [W_id (by omega) (by omega)]
  omega
theorem sl1Byte_g {g : L1Cur} (h : CurOk g) : Gives (S_sl1Byte g) fun x => 0 ≤ x ∧ x ≤ 255 := by
  obtain ⟨h1, h2, h3⟩ := h
  unfold S_sl1Byte
  simp only [rws_y, geti_y, len_y]
  by_cases c : g.i < (g.b.length : Int)
  · rw [show decide (g.i < (g.b.length : Int)) = true by simpa using c, cnd_tt]
    have hlt : g.i.toNat < g.b.length := by omega
    have hx : g.b[g.i.toNat]? = some g.b[g.i.toNat] := List.getElem?_eq_getElem hlt
    have e : g.i = ((g.i.toNat : Nat) : Int) := by omega
    have hz : ∀ {β : Type} (K : Int → Option β), getZ g.b g.i K = K g.b[g.i.toNat] := fun K => by
      conv => lhs; rw [e]
      exact getZ_at hx K
    rw [hz]
    refine ⟨_, _, rfl, and255 _, h1, ?_, ?_⟩
    · show 0 ≤ W (g.i + 1)
      rw [W_id (by omega) (by omega)]; omega
    · show W (g.i + 1) ≤ _
      rw [W_id (by omega) (by omega)]; show g.i + 1 ≤ (g.b.length : Int); omega
  · rw [show decide (g.i < (g.b.length : Int)) = false by simpa using c, cnd_ff]
    exact ⟨_, _, rfl, and255 _, h1, h2, h3⟩
theorem sl1Below_g {g : L1Cur} (h : CurOk g) {n : Int} (h1 : n ≤ 256) : Gives (S_sl1Below n g) fun x => 0 ≤ x ∧ (1 ≤ n → x < n) ∧ (n ≤ 0 → x = 0) := by
  unfold S_sl1Below
  simp only [rws_y, eta_L1Cur]
  by_cases c : n ≤ 0
  · rw [show decide (n ≤ 0) = true by simpa using c, cnd_tt]
    exact ⟨_, _, rfl, ⟨Int.le_refl _, fun h => by omega, fun _ => rfl⟩, h⟩
  · rw [show decide (n ≤ 0) = false by simpa using c, cnd_ff, show decide (n ≤ 256) = true by simpa using h1, cnd_tt]
    obtain ⟨x, g', e, hx, hg⟩ := sl1Byte_g h
    rw [e, bnd_some, ifA_pos (by omega)]
    refine ⟨_, _, rfl, ⟨?_, fun _ => ?_, fun h => by omega⟩, hg⟩
    · exact Int.tmod_nonneg _ hx.1
    · have := Int.tmod_lt_of_pos x (show 0 < n by omega)
      exact this
theorem sl1Once_g {g : L1Cur} (h : CurOk g) {n : Int} (h1 : n ≤ 256) : Gives (S_sl1Once n g) fun _ => True := by
  unfold S_sl1Once
  simp only [rws_y, eta_L1Cur]
  obtain ⟨x, g', e, hx, hg⟩ := sl1Below_g h h1
  rw [e, bnd_some]
  exact ⟨_, _, rfl, trivial, hg⟩
theorem sl1Int_g {g : L1Cur} (h : CurOk g) {l : List Int} (h0 : 1 ≤ l.length) (h1 : l.length ≤ 256) {P : Int → Prop} (hP : ∀ x ∈ l, P x) : Gives (S_sl1Int l g) P := by
  unfold S_sl1Int
  simp only [rws_y, geti_i, len_i, eta_L1Cur]
  obtain ⟨x, g', e, hx, hg⟩ := sl1Below_g h (n := (l.length : Int)) (by omega)
  rw [e, bnd_some]
  have hlt := hx.2.1 (by omega)
  have hlt' : x.toNat < l.length := by omega
  have hz : ∀ {β : Type} (K : Int → Option β), getZ l x K = K l[x.toNat] := fun K => by
    have e : x = ((x.toNat : Nat) : Int) := by omega
    conv => lhs; rw [e]
    exact getZ_at (List.getElem?_eq_getElem hlt') K
  show Gives (getZ l x _) P
  rw [hz]
  exact ⟨_, _, rfl, hP _ (List.getElem_mem hlt'), hg⟩
theorem sl4Draw_g {g : L1Cur} (h : CurOk g) (id : Int) : Gives (S_sl4Draw id g) fun p => p.id = id ∧ isPath { p with id := 1 } = true := by
  unfold S_sl4Draw
  simp only [rws_y, eta_L1Cur]
  obtain ⟨x, g1, e1, hx, hg1⟩ := sl1Below_g h (n := 3) (by omega)
  rw [e1, bnd_some]
  obtain ⟨y, g2, e2, hy, hg2⟩ := sl1Below_g hg1 (n := 4) (by omega)
  rw [e2, bnd_some]
  have hx1 := hx.2.1 (by omega)
  have hy1 := hy.2.1 (by omega)
  rw [W_id (n := 1 + x) (by omega) (by omega)]
  by_cases c : 1 + x = 2
  · rw [show ((1 + x) != 2) = false by simpa using c, cnd_ff]
    refine ⟨_, _, rfl, ⟨rfl, ?_⟩, hg2⟩
    unfold isPath inR
    simp [c]
    omega
  · rw [show ((1 + x) != 2) = true by simpa using c, cnd_tt]
    obtain ⟨z, g3, e3, hz, hg3⟩ := sl1Below_g hg2 (n := 3) (by omega)
    rw [e3, bnd_some]
    have hz1 := hz.2.1 (by omega)
    refine ⟨_, _, rfl, ⟨rfl, ?_⟩, hg3⟩
    rw [W_id (n := y + 1) (by omega) (by omega), W_id (n := y + 1 + z) (by omega) (by omega)]
    unfold isPath inR
    have hm := Int.tmod_nonneg 4 (show 0 ≤ y + 1 + z by omega)
    have hm2 := Int.tmod_lt_of_pos (y + 1 + z) (show (0 : Int) < 4 by omega)
    have hne : y ≠ (y + 1 + z).tmod 4 := by
      rw [Int.tmod_eq_emod_of_nonneg (by omega)]
      omega
    simp only [beq_eq_false_iff_ne.2 hne, beq_eq_false_iff_ne.2 c]
    simp
    omega
end Go.Sh
