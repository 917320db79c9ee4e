/- FnMeasured: what the counts say. -/
import Derived.Test.YtkbhcieejpbjpaaGreatMe1
set_option linter.all false
namespace Go.Sh
open Go.Fx
theorem kinds_sum : ∀ l : List Path, (∀ p ∈ l, isPath p = true) → cnt (fun x => x.kind == 1) l + cnt (fun x => x.kind == 2) l + cnt (fun x => x.kind == 3) l = (l.length : Int)
  | [], _ => rfl
  | p :: l, h => by
    have ih := kinds_sum l fun q hq => h q (List.mem_cons_of_mem _ hq)
    unfold cnt at ih ⊢
    rcases kind_of (h p (List.mem_cons_self ..)) with e | e | e <;> simp [e] <;> omega
theorem cnt_le {α : Type} (p : α → Bool) (l : List α) : 0 ≤ cnt p l ∧ cnt p l ≤ (l.length : Int) := by
  unfold cnt
  have := List.length_filter_le p l
  omega
theorem busy_range (l : List Path) : ∀ (r : List Nat) (b : Int × Int), busy l r b = b.1 ∨ ∃ a ∈ r, busy l r b = (a : Int)
  | [], b => .inl rfl
  | a :: r, b => by
    unfold busy
    split
    · rcases busy_range l r ((a : Int), ends l a) with h | ⟨c, h1, h2⟩
      · exact .inr ⟨a, List.mem_cons_self .., h⟩
      · exact .inr ⟨c, List.mem_cons_of_mem _ h1, h2⟩
    · rcases busy_range l r b with h | ⟨c, h1, h2⟩
      · exact .inl h
      · exact .inr ⟨c, List.mem_cons_of_mem _ h1, h2⟩
theorem busy_pos (l : List Path) : ∀ (r : List Nat) (b : Int × Int), (0 ≤ b.1 ∨ ∃ a ∈ r, b.2 < ends l a) → 0 ≤ busy l r b
  | [], b, h => by
    rcases h with h | ⟨a, ha, _⟩
    · exact h
    · cases ha
  | a :: r, b, h => by
    unfold busy
    split
    · exact busy_pos l r _ (.inl (by show (0 : Int) ≤ (a : Int); omega))
    · rename_i hn
      refine busy_pos l r b (h.imp id fun ⟨c, hc, hlt⟩ => ?_)
      rcases List.mem_cons.1 hc with rfl | hc
      · exact absurd hlt hn
      · exact ⟨c, hc, hlt⟩
theorem busy_nil : ∀ (r : List Nat) (b : Int × Int), 0 ≤ b.2 → busy [] r b = b.1
  | [], b, _ => rfl
  | a :: r, b, h => by
    unfold busy
    rw [if_neg (by show ¬ b.2 < (0 : Int); omega)]
    exact busy_nil r b h
theorem busiest_r (l : List Path) : -1 ≤ busiestArm l ∧ busiestArm l ≤ 3 ∧ (decide (busiestArm l ≥ 0) = (arePaths l && decide ((l.length : Int) > 0))) := by
  unfold busiestArm
  cases ha : arePaths l with
  | false => exact ⟨by simp, by simp, by simp⟩
  | true =>
    simp only [if_true, Bool.true_and]
    have h1 : -1 ≤ busy l (List.range 4) (-1, 0) ∧ busy l (List.range 4) (-1, 0) ≤ 3 := by
      rcases busy_range l (List.range 4) (-1, 0) with h | ⟨a, h1, h2⟩
      · rw [h]; decide
      · rw [h2]
        have := List.mem_range.1 h1
        omega
    refine ⟨h1.1, h1.2, ?_⟩
    cases l with
    | nil => rw [busy_nil _ _ (by decide)]; rfl
    | cons p t =>
      have hp := goP_mem (are_go ha) p (List.mem_cons_self ..)
      have hr : 0 ≤ p.src ∧ p.src ≤ 3 := by
        simp [isPath, inR] at hp
        omega
      have h0 : 0 ≤ busy (p :: t) (List.range 4) (-1, 0) := busy_pos _ _ _ (.inr ⟨p.src.toNat, List.mem_range.2 (by omega), by
        unfold ends cnt
        rw [List.filter_cons_of_pos (by rw [Int.toNat_of_nonneg hr.1]; simp)]
        show (0 : Int) < ((_ :: _ : List Path).length : Int)
        simp⟩)
      rw [decide_eq_true h0]
      exact (decide_eq_true (by simp)).symm
theorem sizes_r {l : List Path} {s : Int} (h : s ∈ sizes l) : 1 ≤ s ∧ s ≤ (l.length : Int) := by
  unfold sizes at h
  obtain ⟨e, he, rfl⟩ := List.mem_map.1 h
  unfold stagesOf at he
  split at he
  case isFalse => cases he
  rename_i ha
  rcases search_mem l l [] [] e he with h1 | ⟨h1, _, h3⟩
  · cases h1
  · have := List.length_pos_iff.2 h3
    simp at h1
    omega
theorem longest_ge : ∀ (l : List Want) (m : Int), m ≤ l.foldl (fun m y => if m < y.wait then y.wait else m) m ∧ ∀ w ∈ l, w.wait ≤ l.foldl (fun m y => if m < y.wait then y.wait else m) m
  | [], m => ⟨Int.le_refl _, fun w hw => by cases hw⟩
  | x :: l, m => by
    rw [List.foldl_cons]
    obtain ⟨h1, h2⟩ := longest_ge l (if m < x.wait then x.wait else m)
    have h3 : m ≤ (if m < x.wait then x.wait else m) ∧ x.wait ≤ (if m < x.wait then x.wait else m) := by split <;> omega
    refine ⟨Int.le_trans h3.1 h1, fun w hw => ?_⟩
    rcases List.mem_cons.1 hw with rfl | hw
    · exact Int.le_trans h3.2 h1
    · exact h2 w hw
theorem longest_all {l : List Want} {w : Want} (h : w ∈ l) : w.wait ≤ longestWait l := by
  cases l with
  | nil => cases h
  | cons x l =>
    unfold longestWait
    rcases List.mem_cons.1 h with rfl | h
    · exact (longest_ge l _).1
    · exact (longest_ge l _).2 w h
theorem share_r {n i : Nat} {u : Int} (hu0 : 0 ≤ u) (hu : u ≤ 1000000) : ∀ (r : List Note) (b : Int) (x : Note) (acc : Int), goR n b (some x.second) r = true → 0 ≤ x.second ∧ x.second ≤ 1000000 → 0 ≤ acc → acc + (if u - x.second < 0 then 0 else u - x.second) ≤ 2000000 →
    acc ≤ goShare i u (x :: r) acc ∧ goShare i u (x :: r) acc ≤ acc + (if u - x.second < 0 then 0 else u - x.second)
  | [], b, x, acc, _, hx, ha, hs => by
    unfold goShare goShare upto pos
    split
    · rw [W_id (n := u - x.second) (by split at hs <;> omega) (by omega)]
      split <;> rw [W_id (by split at hs <;> omega) (by split at hs <;> omega)] <;> split <;> omega
    · split <;> omega
  | y :: r, b, x, acc, h, hx, ha, hs => by
    have h2 : x.second < y.second ∧ goR n y.sig (some y.second) r = true := by
      unfold goR at h
      simp only [Bool.and_eq_true, later, decide_eq_true_eq] at h
      exact ⟨h.1.2, h.2⟩
    have hy1 : y.second ≤ 1000000 := (goR_len h y (List.mem_cons_self ..)).2.2.1
    have e : goShare i u (x :: y :: r) acc = goShare i u (y :: r) (if x.lights[i]? = some 1 then W (acc + pos (W (upto u (y :: r) - x.second))) else acc) := rfl
    rw [e]
    have key : ∀ p : Int, 0 ≤ p → p + (if u - y.second < 0 then 0 else u - y.second) ≤ (if u - x.second < 0 then 0 else u - x.second) →
        acc ≤ goShare i u (y :: r) (acc + p) ∧ goShare i u (y :: r) (acc + p) ≤ acc + (if u - x.second < 0 then 0 else u - x.second) := fun p hp hle => by
      obtain ⟨g1, g2⟩ := share_r (i := i) hu0 hu r _ y (acc + p) h2.2 ⟨by omega, hy1⟩ (by omega) (by omega)
      exact ⟨by omega, by omega⟩
    have hup : upto u (y :: r) = if y.second < u then y.second else u := rfl
    split
    · rw [hup]
      have hW : W ((if y.second < u then y.second else u) - x.second) = (if y.second < u then y.second else u) - x.second := W_id (by split <;> (split at hs <;> omega)) (by split <;> omega)
      rw [hW]
      unfold pos
      have hp0 : 0 ≤ (if 0 < (if y.second < u then y.second else u) - x.second then (if y.second < u then y.second else u) - x.second else 0) := by split <;> omega
      have hp1 : (if 0 < (if y.second < u then y.second else u) - x.second then (if y.second < u then y.second else u) - x.second else 0) + (if u - y.second < 0 then 0 else u - y.second) ≤ (if u - x.second < 0 then 0 else u - x.second) := by
        split <;> split <;> split <;> (try split) <;> omega
      generalize (if 0 < (if y.second < u then y.second else u) - x.second then (if y.second < u then y.second else u) - x.second else 0) = p at hp0 hp1
      have : (0 : Int) ≤ (if u - y.second < 0 then 0 else u - y.second) := by split <;> omega
      rw [W_id (by omega) (by omega)]
      exact key p hp0 hp1
    · have := key 0 (by omega) (by split <;> split <;> omega)
      rw [Int.add_zero] at this
      exact this
theorem openShare_r (l : List Note) (i u : Int) : 0 ≤ openShare l i u ∧ openShare l i u ≤ 100 := by
  unfold openShare
  split
  · exact ⟨Int.le_refl _, by show (0 : Int) ≤ 100; decide⟩
  rename_i hn
  cases l with
  | nil => exact ⟨Int.le_refl _, by show (0 : Int) ≤ 100; decide⟩
  | cons x r =>
    simp only
    split
    · exact ⟨Int.le_refl _, by show (0 : Int) ≤ 100; decide⟩
    rename_i hc
    have hR : isRecord (x :: r) = true := by
      cases h : isRecord (x :: r) with
      | true => rfl
      | false => exact absurd (.inl h) hn
    have hu : u ≤ 1000000 := by
      by_cases c : (1000000 : Int) < u
      · exact absurd (.inr c) hn
      · omega
    have hx := isRecord_len hR x (List.mem_cons_self ..)
    have hg : goR (firstLen (x :: r)) x.sig (some x.second) r = true := by
      unfold isRecord at hR
      rw [Bool.and_eq_true] at hR
      have := hR.2
      unfold goR at this
      simp only [Bool.and_eq_true] at this
      exact this.2
    have hlt : x.second < u := by
      by_cases c : u ≤ x.second
      · exact absurd (.inl c) hc
      · omega
    obtain ⟨g1, g2⟩ := share_r (i := i.toNat) (by omega) hu r _ x 0 hg ⟨hx.2.1, hx.2.2.1⟩ (Int.le_refl _) (by split <;> omega)
    rw [if_neg (by omega)] at g2
    generalize goShare i.toNat u (x :: r) 0 = s at g1 g2
    rw [W_id (n := 100 * s) (by omega) (by omega), W_id (n := u - x.second) (by omega) (by omega), Int.tdiv_eq_ediv_of_nonneg (by omega)]
    have h1 : 0 ≤ 100 * s / (u - x.second) := Int.ediv_nonneg (by omega) (by omega)
    have h2 : 100 * s / (u - x.second) ≤ 100 := Int.ediv_le_of_le_mul (by omega) (by omega)
    rw [W_id (by omega) (by omega)]
    exact ⟨h1, h2⟩
end Go.Sh
