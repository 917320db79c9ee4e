/- Part of the proof: see the last text of the claim. -/
import Derived.Test.YtkbhcieejpbjpaaGTyLS
import Derived.Test.YtkbhcieejpbjpaaShS
set_option linter.all false
namespace Go.Sh
open Go.Fx
def OkPath (s : Path) : Prop := Rg s.id ∧ Rg s.kind ∧ Rg s.src ∧ Rg s.dst
def shPath : Sh := .st 4 [.int .i64, .int .i64, .int .i64, .int .i64]
theorem reads_path : Reads shPath pathR OkPath := reads_map (reads_st (readF_co reads_int (readF_co reads_int (readF_co reads_int (readF_one reads_int))))) (fun _ h => h)
theorem lszPathS_v (a : (List Path)) (h : (a.length ≤ maxLen ∧ ∀ y ∈ a, OkPath y)) : SzOk S_lszPathS a (Sm a) := by
  intro left g0 g1
  unfold S_lszPathS
  have hm : a.length ≤ 9223372036854775807 := h.1
  simp only [rws_path, len_path]
  rw [W_id (by omega) (by omega)]
  by_cases hn : left - (a.length : Int) < 0
  · rw [show decide (left - (a.length : Int) < 0) = true by simpa using hn, cnd_tt]
    exact ⟨-1, rfl, .inl (by omega)⟩
  · rw [show decide (left - (a.length : Int) < 0) = false by simpa using hn, cnd_ff]
    exact ⟨_, rfl, .inr ⟨by omega, by omega, by unfold Sm; omega⟩⟩
@[simp] theorem ltoPath_v (a : Path) : S_ltoPath a = some a := rfl
theorem ltoPathS_v (a : (List Path)) (h : Sm a) : S_ltoPathS a = some a := by
  have hl := h
  unfold Sm at hl
  unfold S_ltoPathS
  simp only [rws_path, len_path, rep_path, Int.toNat_natCast]
  rw [ifA_pos (by simp <;> omega)]
  refine to_loop a _ (by omega) ?_ ?_
  · intro rec o
    simp
  · intro rec k x o hx hk ho
    have hz : o[k]? = some o[k] := List.getElem?_eq_getElem (by omega)
    have hko : k < o.length := by omega
    simp [hk, hko, getZ_at hx, getN_at hz, W_nat (show k ≤ 9223372036854775806 by omega), ltoPath_v]
theorem leqIntS_v (a b : (List Int)) (h : Sm a) : S_leqIntS a b = some (decide (a = b)) := by
  have hl := h
  unfold Sm at hl
  unfold S_leqIntS
  simp only [rws_i, len_i]
  by_cases hab : a.length = b.length
  · rw [show (((a.length : Nat) : Int) != ((b.length : Nat) : Int)) = false by simp [hab], cnd_ff]
    refine eq_loop a b hab (by omega) ?_ ?_
    · intro rec
      simp
    · intro rec k x y hx hy hk
      simp [hk, getZ_at hx, getZ_at hy, W_nat (show k ≤ 9223372036854775806 by omega), cnd_if]
  · have hne : a ≠ b := fun e => hab (by rw [e])
    rw [show (((a.length : Nat) : Int) != ((b.length : Nat) : Int)) = true by simp; omega, cnd_tt]
    simp [hne]
@[simp] theorem leqPath_v (a b : Path) : S_leqPath a b = some (decide (a = b)) := by
  unfold S_leqPath
  rcases a with ⟨a0, a1, a2, a3⟩
  rcases b with ⟨b0, b1, b2, b3⟩
  simp [cnd_if]
  grind
theorem leqPathS_v (a b : (List Path)) (h : Sm a) : S_leqPathS a b = some (decide (a = b)) := by
  have hl := h
  unfold Sm at hl
  unfold S_leqPathS
  simp only [rws_path, len_path]
  by_cases hab : a.length = b.length
  · rw [show (((a.length : Nat) : Int) != ((b.length : Nat) : Int)) = false by simp [hab], cnd_ff]
    refine eq_loop a b hab (by omega) ?_ ?_
    · intro rec
      simp
    · intro rec k x y hx hy hk
      simp [hk, getZ_at hx, getZ_at hy, W_nat (show k ≤ 9223372036854775806 by omega), cnd_if, leqPath_v]
  · have hne : a ≠ b := fun e => hab (by rw [e])
    rw [show (((a.length : Nat) : Int) != ((b.length : Nat) : Int)) = true by simp; omega, cnd_tt]
    simp [hne]
inductive HdL {α : Type} (Hd : α → Int → Int → Prop) : List α → Int → Int → Prop
  | nil (k : Int) : HdL Hd [] k 0
  | cons {y : α} {ys : List α} {k n m : Int} : Hd y k n → HdL Hd ys (k + n) m → HdL Hd (y :: ys) k (n + m)
theorem mark_loop {α : Type} {F : (((Int × Int) × List α) → Option (Int × List α)) → ((Int × Int) × List α) → Option (Int × List α)} (Hd : α → Int → Int → Prop) (Q : α → Prop) (B : Int) (hB : 0 ≤ B)
    (h0 : ∀ rec k (l : List α), F rec ((k, (l.length : Int)), l) = some (k, l))
    (h1 : ∀ rec k (i : Nat) (l : List α) x, Q x → l[i]? = some x → i < l.length → i < 1048576 → 0 ≤ k → k + B ≤ 1152921504606846976 → ∃ y n, 0 ≤ n ∧ n ≤ B ∧ Hd y k n ∧ F rec ((k, (i : Int)), l) = rec ((k + n, ((i + 1 : Nat) : Int)), l.set i y)) :
    ∀ (m : Nat) (k : Int) (i : Nat) (l : List α), (∀ j x, i ≤ j → l[j]? = some x → Q x) → i ≤ l.length → l.length ≤ 1048576 → l.length - i < m → 0 ≤ k → k + B * ((l.length - i : Nat) : Int) ≤ 1152921504606846976 →
      ∃ n b, 0 ≤ n ∧ n ≤ B * ((l.length - i : Nat) : Int) ∧ b.length = l.length - i ∧ HdL Hd b k n ∧ iter F m ((k, (i : Int)), l) = some (k + n, l.take i ++ b)
  | 0, k, i, l, _, h, _, hm, _, _ => by omega
  | m + 1, k, i, l, hq, h, hl, hm, hk, hkb => by
    rw [iter_succ]
    rcases Nat.lt_or_ge i l.length with hlt | hge
    · have hx : l[i]? = some l[i] := List.getElem?_eq_getElem hlt
      have e1 : ((l.length - i : Nat) : Int) = ((l.length - (i + 1) : Nat) : Int) + 1 := by omega
      have e2 : B * ((l.length - i : Nat) : Int) = B * ((l.length - (i + 1) : Nat) : Int) + B := by rw [e1, Int.mul_add, Int.mul_one]
      have e3 : 0 ≤ B * ((l.length - (i + 1) : Nat) : Int) := Int.mul_nonneg hB (by omega)
      obtain ⟨y, n, n0, n1, hd, e⟩ := h1 (iter F m) k i l _ (hq i _ (Nat.le_refl i) hx) hx hlt (by omega) hk (by omega)
      rw [e]
      obtain ⟨n2, b, g0, g1, g2, g3, g4⟩ := mark_loop Hd Q B hB h0 h1 m (k + n) (i + 1) (l.set i y) (fun j x hj hx => hq j x (by omega) (by rwa [List.getElem?_set_ne (by omega)] at hx)) (by simpa using Nat.succ_le_of_lt hlt) (by simpa using hl) (by simp; omega) (by omega) (by simp only [List.length_set]; omega)
      simp only [List.length_set] at g1 g2
      refine ⟨n + n2, y :: b, by omega, by omega, by simp; omega, .cons hd g3, ?_⟩
      rw [g4]
      congr 2
      · omega
      · rw [List.take_add_one]
        have : (l.set i y)[i]? = some y := by simp [hlt]
        rw [this, List.take_set_of_le (Nat.le_refl i)]
        simp
    · have : i = l.length := by omega
      subst this
      rw [h0]
      exact ⟨0, [], by omega, by simp, by simp, .nil k, by simp⟩
theorem HdL.nonneg {α : Type} {Hd : α → Int → Int → Prop} (hn : ∀ y k n, Hd y k n → 0 ≤ n) {b : List α} {k n : Int} (h : HdL Hd b k n) : 0 ≤ n := by
  induction h with
  | nil => omega
  | cons h1 _ ih => have := hn _ _ _ h1; omega
theorem held_loop {α : Type} {F : ((List α × (Int × Int)) → Option Int) → (List α × (Int × Int)) → Option Int} (Hd : α → Int → Int → Prop) (l : List α) (hl : l.length ≤ 1048576) (hn : ∀ y k n, Hd y k n → 0 ≤ n)
    (h0 : ∀ rec k, F rec (l, (k, (l.length : Int))) = some k)
    (h1 : ∀ rec k (i : Nat) y n, l[i]? = some y → i < l.length → i < 1048576 → 0 ≤ k → k + n ≤ 1152921504606846976 → 0 ≤ n → Hd y k n → F rec (l, (k, (i : Int))) = rec (l, (k + n, ((i + 1 : Nat) : Int)))) :
    ∀ (m : Nat) (b : List α) (k n : Int) (i : Nat), l.drop i = b → i ≤ l.length → l.length - i < m → 0 ≤ k → k + n ≤ 1152921504606846976 → HdL Hd b k n → iter F m (l, (k, (i : Int))) = some (k + n)
  | 0, b, k, n, i, _, _, hm, _, _, _ => by omega
  | m + 1, b, k, n, i, hb, hi, hm, hk, hkn, hd => by
    rw [iter_succ]
    cases hd with
    | nil =>
      have : i = l.length := by
        have := congrArg List.length hb
        simp at this
        omega
      subst this
      rw [h0]; simp
    | @cons y ys _ n1 n2 g1 g2 =>
      have hlt : i < l.length := by
        have := congrArg List.length hb
        simp at this
        omega
      have hy : l[i]? = some y := by
        have : (l.drop i)[0]? = some y := by rw [hb]; rfl
        simpa using this
      have := hn _ _ _ g1
      have := g2.nonneg hn
      rw [h1 _ k i y n1 hy hlt (by omega) hk (by omega) (by omega) g1]
      have hb2 : l.drop (i + 1) = ys := by
        rw [List.drop_eq_getElem_cons hlt] at hb
        exact (List.cons.inj hb).2
      rw [held_loop Hd l hl hn h0 h1 m ys (k + n1) n2 (i + 1) hb2 hlt (by omega) (by omega) (by omega) g2]
      congr 1; omega
theorem mark_list {α : Type} {F : (((Int × Int) × List α) → Option (Int × List α)) → ((Int × Int) × List α) → Option (Int × List α)} (Hd : α → Int → Int → Prop) (Q : α → Prop) (B : Int) (hB : 0 ≤ B) (a : List α) (h : Sm a) (hq : ∀ x ∈ a, Q x) (k : Int) (k0 : 0 ≤ k) (k1 : k + B * 1048576 ≤ 1152921504606846976)
    (h0 : ∀ rec k (l : List α), F rec ((k, (l.length : Int)), l) = some (k, l))
    (h1 : ∀ rec k (i : Nat) (l : List α) x, Q x → l[i]? = some x → i < l.length → i < 1048576 → 0 ≤ k → k + B ≤ 1152921504606846976 → ∃ y n, 0 ≤ n ∧ n ≤ B ∧ Hd y k n ∧ F rec ((k, (i : Int)), l) = rec ((k + n, ((i + 1 : Nat) : Int)), l.set i y)) :
    ∃ n b, 0 ≤ n ∧ n ≤ B * 1048576 ∧ (Sm b ∧ HdL Hd b k n) ∧ iter F NN ((k, 0), a) = some (k + n, b) := by
  unfold Sm at h ⊢
  have hb : B * (a.length : Int) ≤ B * 1048576 := Int.mul_le_mul_of_nonneg_left (by omega) hB
  obtain ⟨n, b, g0, g1, g2, g3, g4⟩ := mark_loop Hd Q B hB h0 h1 NN k 0 a (fun j x _ hx => hq x (List.mem_of_getElem? hx)) (by omega) h (NN_big (by omega)) k0 (by simp only [Nat.sub_zero]; omega)
  simp only [Nat.sub_zero] at g1 g2
  exact ⟨n, b, g0, by omega, ⟨by omega, g3⟩, by simpa using g4⟩
theorem held_list {α : Type} {F : ((List α × (Int × Int)) → Option Int) → (List α × (Int × Int)) → Option Int} (Hd : α → Int → Int → Prop) (hn : ∀ y k n, Hd y k n → 0 ≤ n) (b : List α) (k n : Int) (k0 : 0 ≤ k) (k1 : k + n ≤ 1152921504606846976) (hd : Sm b ∧ HdL Hd b k n)
    (h0 : ∀ rec k, F rec (b, (k, (b.length : Int))) = some k)
    (h1 : ∀ rec k (i : Nat) y n, b[i]? = some y → i < b.length → i < 1048576 → 0 ≤ k → k + n ≤ 1152921504606846976 → 0 ≤ n → Hd y k n → F rec (b, (k, (i : Int))) = rec (b, (k + n, ((i + 1 : Nat) : Int)))) :
    iter F NN (b, (k, 0)) = some (k + n) :=
  held_loop Hd b hd.1 hn h0 h1 NN b k n 0 rfl (by omega) (by have := hd.1; unfold Sm at this; exact NN_big (by omega)) k0 k1 hd.2
theorem cnd_no {β : Type} {p : Prop} [Decidable p] (h : ¬ p) (x y : Option β) : cnd (decide p) x y = y := by
  unfold cnd; simp [h]
theorem getN_set {α β : Type} {l : List α} {i : Nat} (h : i < l.length) (y : α) (K : α → Option β) : getN (l.set i y) i K = K y := getN_at (by simp [h]) K
def HdPathSE (y : Path) (k n : Int) : Prop := y = (⟨k, k + 1, k + 1 + 1, k + 1 + 1 + 1⟩ : Path) ∧ k + n = k + 1 + 1 + 1 + 1
abbrev HdPathS (b : (List Path)) (k n : Int) : Prop := Sm b ∧ HdL HdPathSE b k n
theorem lmarkPathS_m (a : (List Path)) (h : Sm a) (k : Int) (k0 : 0 ≤ k) (k1 : k + 4 * 1048576 ≤ 1152921504606846976) : ∃ n b, 0 ≤ n ∧ n ≤ 4 * 1048576 ∧ HdPathS b k n ∧ S_lmarkPathS a k = some (k + n, b) := by
  unfold S_lmarkPathS
  simp only [rws_path]
  refine mark_list (F := _) HdPathSE (fun _ => True) 4 (by omega) a h (fun _ _ => trivial) k k0 k1 ?_ ?_
  · intro rec k l
    simp
  · intro rec k i l x hq hx hi hi2 hk hkb
    refine ⟨(⟨k, k + 1, k + 1 + 1, k + 1 + 1 + 1⟩ : Path), 1 + 1 + 1 + 1, by omega, by omega, ⟨rfl, by omega⟩, ?_⟩
    rw [show k + (1 + 1 + 1 + 1) = k + 1 + 1 + 1 + 1 by omega]
    simp (disch := omega) [len_path, getN_at hx, hi, W_nat (show i ≤ 9223372036854775806 by omega), getN_set hi, List.length_set, List.set_set, W_id]
def HdIntSE (y : Int) (k n : Int) : Prop := y = k ∧ k + n = k + 1
theorem HdIntSE_nn (y : Int) (k n : Int) (h : HdIntSE y k n) : 0 ≤ n := by
  unfold HdIntSE at h
  omega
abbrev HdIntS (b : (List Int)) (k n : Int) : Prop := Sm b ∧ HdL HdIntSE b k n
theorem lmarkIntS_m (a : (List Int)) (h : Sm a) (k : Int) (k0 : 0 ≤ k) (k1 : k + 1 * 1048576 ≤ 1152921504606846976) : ∃ n b, 0 ≤ n ∧ n ≤ 1 * 1048576 ∧ HdIntS b k n ∧ S_lmarkIntS a k = some (k + n, b) := by
  unfold S_lmarkIntS
  simp only [rws_i]
  refine mark_list (F := _) HdIntSE (fun _ => True) 1 (by omega) a h (fun _ _ => trivial) k k0 k1 ?_ ?_
  · intro rec k l
    simp
  · intro rec k i l x hq hx hi hi2 hk hkb
    refine ⟨k, 1, by omega, by omega, ⟨rfl, by omega⟩, ?_⟩
    rw [show k + (1) = k + 1 by omega]
    simp (disch := omega) [len_i, getN_at hx, hi, W_nat (show i ≤ 9223372036854775806 by omega), getN_set hi, List.length_set, List.set_set, W_id]
theorem lheldIntS_h (b : (List Int)) (k n : Int) (k0 : 0 ≤ k) (k1 : k + n ≤ 1152921504606846976) (h : HdIntS b k n) : S_lheldIntS b k = some (k + n) := by
  unfold S_lheldIntS
  simp only [rws_i]
  refine held_list (F := _) HdIntSE HdIntSE_nn b k n k0 k1 h ?_ ?_
  · intro rec k
    simp
  · intro rec k i y n hy hi hi2 hk hkb hn hd
    obtain ⟨e1, e2⟩ := hd
    rw [e2]
    simp (disch := omega) [len_i, getZ_at hy, hi, W_nat (show i ≤ 9223372036854775806 by omega), W_id, cnd_no, e1]
end Go.Sh
