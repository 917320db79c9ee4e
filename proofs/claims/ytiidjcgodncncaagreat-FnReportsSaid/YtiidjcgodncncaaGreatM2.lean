/- The draws of paths, lamps and towns. -/
import Derived.Test.YtiidjcgodncncaaGreatM1
set_option linter.all false
namespace Go.Sh
open Go.Fx
theorem iter_ex {V β : Type} {F : (V → Option β) → V → Option β} {Q : β → Prop} (μ : V → Nat) (inv : V → Prop)
    (step : ∀ rec v, inv v → (∀ v', inv v' → μ v' < μ v → ∃ b, rec v' = some b ∧ Q b) → ∃ b, F rec v = some b ∧ Q b) : ∀ n v, inv v → μ v < n → ∃ b, iter F n v = some b ∧ Q b
  | 0, v, _, h => by omega
  | n + 1, v, hi, h => by
    rw [iter_succ]
    exact step _ v hi fun v' hi' hlt => iter_ex μ inv step n v' hi' (by omega)
theorem gives_iff {α : Type} {x : Option (α × L1Cur)} {P : α → Prop} : Gives x P ↔ ∃ b, x = some b ∧ (P b.1 ∧ CurOk b.2) :=
  ⟨fun ⟨a, g, e, h1, h2⟩ => ⟨(a, g), e, h1, h2⟩, fun ⟨b, e, h1, h2⟩ => ⟨b.1, b.2, e, h1, h2⟩⟩
def Drawn (l : List Path) : Prop := l.length ≤ 7 ∧ ∀ (i : Nat) (p : Path), l[i]? = some p → p.id = (i : Int) + 1 ∧ isPath { p with id := 1 } = true
theorem appe_path (l : List Path) (a b c d : Int) {β : Type} (K : List Path → Option β) : rws pathR (l.map pathR.enc ++ [[I a, I b, I c, I d]]) K = K (l ++ [(⟨a, b, c, d⟩ : Path)]) :=
  (rws_app _ _ _ K).trans (rws_path l _)
theorem sl5Draw_g {g : L1Cur} (h : CurOk g) : Gives (S_sl5Draw g) fun l => Drawn l ∧ 2 ≤ l.length := by
  unfold S_sl5Draw
  simp only [rws_y, rws_path, eta_L1Cur]
  rw [gives_iff]
  refine iter_ex (fun v => (8 - v.1.2.2).toNat) (fun v => Drawn v.1.2.1 ∧ v.1.2.2 = (v.1.2.1.length : Int) + 1 ∧ CurOk v.2) ?_ NN _ ⟨⟨by simp, fun i p hp => by simp at hp⟩, by simp, h⟩ (NN_big (by show (8 - (1 : Int)).toNat ≤ _; decide))
  rintro rec ⟨⟨u, l, i⟩, g1⟩ ⟨hl, hi, hg⟩ hrec
  simp only at hl hi hg hrec ⊢
  obtain ⟨x, g2, e2, hx, hg2⟩ := sl1Below_g hg (n := 6) (by omega)
  rw [e2, bnd_some]
  have hx1 := hx.2.1 (by omega)
  simp only
  rw [W_id (n := 2 + x) (by omega) (by omega)]
  by_cases c : i ≤ 2 + x
  · rw [show decide (i ≤ 2 + x) = true by simpa using c, cnd_tt]
    obtain ⟨p, g3, e3, hp, hg3⟩ := sl4Draw_g hg2 i
    rw [e3, bnd_some]
    have hlen := hl.1
    simp only [List.length_cons, List.length_nil, len_path]
    rw [ifA_pos (by omega)]
    obtain ⟨pid, pk, ps, pd⟩ := p
    simp only [appe_path] at hp ⊢
    refine hrec (((), (l ++ [⟨pid, pk, ps, pd⟩], W (i + 1))), g3) ⟨⟨by simp; omega, fun j q hq => ?_⟩, ?_, hg3⟩ ?_
    · rcases Nat.lt_or_ge j l.length with hj | hj
      · rw [List.getElem?_append_left hj] at hq
        exact hl.2 j q hq
      · rw [List.getElem?_append_right hj] at hq
        have : j - l.length = 0 := by
          rcases Nat.eq_zero_or_pos (j - l.length) with h | h
          · exact h
          · rw [List.getElem?_eq_none (by simp; omega)] at hq; cases hq
        rw [this] at hq
        simp at hq
        subst hq
        refine ⟨?_, hp.2⟩
        show pid = _
        rw [hp.1]; omega
    · show W (i + 1) = _
      rw [W_id (by omega) (by omega)]; simp; omega
    · show (8 - W (i + 1)).toNat < (8 - i).toNat
      rw [W_id (by omega) (by omega)]; omega
  · rw [show decide (i ≤ 2 + x) = false by simpa using c, cnd_ff]
    exact ⟨_, rfl, ⟨hl, by show 2 ≤ l.length; omega⟩, hg2⟩
theorem sl19Lamps_g {g : L1Cur} (h : CurOk g) {l : List Path} (hl : l.length ≤ 1000) {rare : Int} (hr : rare ≤ 256) : Gives (S_sl19Lamps l rare g) fun x => x.length ≤ 2 * l.length := by
  unfold S_sl19Lamps
  simp only [rws_y, rws_path, rws_lamp, len_path, len_lamp, geti_path, eta_L1Cur]
  rw [gives_iff]
  refine iter_ex (fun v => ((l.length : Int) - v.1.2.2.2.2).toNat) (fun v => v.1.2.1 = l ∧ v.1.2.2.1 = rare ∧ 0 ≤ v.1.2.2.2.2 ∧ v.1.2.2.2.2 ≤ (l.length : Int) ∧ (v.1.2.2.2.1.length : Int) ≤ 2 * v.1.2.2.2.2 ∧ CurOk v.2) ?_ NN _ ⟨rfl, rfl, Int.le_refl _, by show (0 : Int) ≤ l.length; omega, by simp, h⟩ (NN_big (by show ((l.length : Int) - 0).toNat ≤ _; omega))
  rintro rec ⟨⟨u, l', rare', x, i⟩, g1⟩ ⟨p1, p2, hi0, hi1, hx, hg⟩ hrec
  simp only at p1 p2 hi0 hi1 hx hg hrec ⊢
  subst p1 p2
  by_cases c : i < (l'.length : Int)
  · rw [show decide (i < (l'.length : Int)) = true by simpa using c, cnd_tt]
    refine iter_ex (fun v => (2 - v.1.2.2.2.2.2).toNat) (fun v => v.1.2.1 = l' ∧ v.1.2.2.1 = rare' ∧ v.1.2.2.2.2.1 = i ∧ 0 ≤ v.1.2.2.2.2.2 ∧ v.1.2.2.2.2.2 ≤ 2 ∧ (v.1.2.2.2.1.length : Int) ≤ 2 * i + v.1.2.2.2.2.2 ∧ CurOk v.2) ?_ NN _ ⟨rfl, rfl, rfl, Int.le_refl _, by show (0 : Int) ≤ 2; decide, by show (x.length : Int) ≤ 2 * i + 0; omega, hg⟩ (NN_big (by show (2 - (0 : Int)).toNat ≤ _; decide))
    rintro rec2 ⟨⟨u2, l2, rare2, x2, i2, k⟩, g2⟩ ⟨q1, q2, q3, hk0, hk1, hx2, hg2⟩ hrec2
    simp only at q1 q2 q3 hk0 hk1 hx2 hg2 hrec2 ⊢
    subst q1 q2 q3
    by_cases ck : k < 2
    · rw [show decide (k < 2) = true by simpa using ck, cnd_tt]
      obtain ⟨b, g3, e3, _, hg3⟩ := sl1Once_g hg2 (n := 5) (by omega)
      rw [e3, bnd_some]
      cases b with
      | true =>
        simp only [Bool.not_true, cnd_ff]
        refine hrec2 _ ⟨rfl, rfl, rfl, ?_, ?_, ?_, hg3⟩ ?_
        · show 0 ≤ W (k + 1)
          rw [W_id (by omega) (by omega)]; omega
        · show W (k + 1) ≤ 2
          rw [W_id (by omega) (by omega)]; omega
        · show (x2.length : Int) ≤ 2 * i2 + W (k + 1)
          rw [W_id (by omega) (by omega)]; omega
        · show (2 - W (k + 1)).toNat < (2 - k).toNat
          rw [W_id (by omega) (by omega)]; omega
      | false =>
        simp only [Bool.not_false, cnd_tt]
        have hlt : i2.toNat < l2.length := by omega
        have hz : ∀ {β : Type} (K : Path → Option β), getZ l2 i2 K = K l2[i2.toNat] := fun K => by
          have e : i2 = ((i2.toNat : Nat) : Int) := by omega
          conv => lhs; rw [e]
          exact getZ_at (List.getElem?_eq_getElem hlt) K
        rw [hz]
        obtain ⟨b, g4, e4, _, hg4⟩ := sl1Once_g hg3 hr
        rw [e4, bnd_some]
        simp only [List.length_cons, List.length_nil]
        rw [ifA_pos (by omega), appe_lamp]
        refine hrec2 ((u2, (l2, rare2, x2 ++ [⟨l2[i2.toNat].id, k, b⟩], i2, W (k + 1))), g4) ⟨rfl, rfl, rfl, ?_, ?_, ?_, hg4⟩ ?_
        · show 0 ≤ W (k + 1)
          rw [W_id (by omega) (by omega)]; omega
        · show W (k + 1) ≤ 2
          rw [W_id (by omega) (by omega)]; omega
        · show ((x2 ++ [_]).length : Int) ≤ 2 * i2 + W (k + 1)
          rw [W_id (by omega) (by omega), List.length_append]; simp; omega
        · show (2 - W (k + 1)).toNat < (2 - k).toNat
          rw [W_id (by omega) (by omega)]; omega
    · rw [show decide (k < 2) = false by simpa using ck, cnd_ff]
      refine hrec _ ⟨rfl, rfl, ?_, ?_, ?_, hg2⟩ ?_
      · show 0 ≤ W (i2 + 1)
        rw [W_id (by omega) (by omega)]; omega
      · show W (i2 + 1) ≤ _
        rw [W_id (by omega) (by omega)]; omega
      · show (x2.length : Int) ≤ 2 * W (i2 + 1)
        rw [W_id (by omega) (by omega)]; omega
      · show ((l2.length : Int) - W (i2 + 1)).toNat < ((l2.length : Int) - i2).toNat
        rw [W_id (by omega) (by omega)]; omega
  · rw [show decide (i < (l'.length : Int)) = false by simpa using c, cnd_ff]
    exact ⟨_, rfl, by show x.length ≤ _; omega, hg⟩
theorem sl1New_g (code : List Int) (h : code.length ≤ 1048576) : ∃ g, S_sl1New code = some ((), g) ∧ CurOk g := by
  unfold S_sl1New
  simp only [rws_y, len_y, geti_y]
  refine (fun ⟨⟨u, g⟩, e, hg⟩ => ⟨g, e, hg⟩ : (∃ b : Unit × L1Cur, _ = some b ∧ CurOk b.2) → _) ?_
  refine iter_ex (Q := fun b : Unit × L1Cur => CurOk b.2) (fun v : List Int × Int × Int => ((code.length : Int) - v.2.2).toNat) (fun v => v.1 = code ∧ 0 ≤ v.2.2 ∧ v.2.2 ≤ (code.length : Int)) ?_ NN _ ⟨rfl, Int.le_refl _, by show (0 : Int) ≤ code.length; omega⟩ (NN_big (by show ((code.length : Int) - 0).toNat ≤ _; omega))
  · rintro rec ⟨c, hh, i⟩ ⟨p1, hi0, hi1⟩ hrec
    simp only at p1 hi0 hi1 hrec ⊢
    subst p1
    by_cases c1 : i < (c.length : Int)
    · rw [show decide (i < (c.length : Int)) = true by simpa using c1, cnd_tt]
      by_cases c2 : i < 4000
      · rw [show decide (i < 4000) = true by simpa using c2, cnd_tt]
        have hlt : i.toNat < c.length := by omega
        have hz : ∀ {β : Type} (K : Int → Option β), getZ c i K = K c[i.toNat] := fun K => by
          have e : i = ((i.toNat : Nat) : Int) := by omega
          conv => lhs; rw [e]
          exact getZ_at (List.getElem?_eq_getElem hlt) K
        rw [hz]
        refine hrec (_, _, _) ⟨rfl, ?_, ?_⟩ ?_
        · show 0 ≤ W (i + 1)
          rw [W_id (by omega) (by omega)]; omega
        · show W (i + 1) ≤ _
          rw [W_id (by omega) (by omega)]; omega
        · show ((c.length : Int) - W (i + 1)).toNat < ((c.length : Int) - i).toNat
          rw [W_id (by omega) (by omega)]; omega
      · rw [show decide (i < 4000) = false by simpa using c2, cnd_ff]
        exact ⟨_, rfl, h, Int.le_refl _, by simp⟩
    · rw [show decide (i < (c.length : Int)) = false by simpa using c1, cnd_ff]
      exact ⟨_, rfl, h, Int.le_refl _, by simp⟩
end Go.Sh
