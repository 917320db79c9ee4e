/- FnMeasured: what is drawn. -/
import Derived.Test.YtkbhcieejpbjpaaGreatQM
set_option linter.all false
namespace Go.Sh
open Go.Fx
theorem sl5Draw_u_g {g : L1Cur} (h : CurOk g) : Gives (S_sl5Draw_u g) fun l => Drawn l ∧ 2 ≤ l.length := by
  unfold S_sl5Draw_u
  simp only [rws_y, rws_path, eta_L1Cur]
  rw [gives_iff]
  refine iter_ex (fun v => (8 - v.1.2.2).toNat) (fun v => Drawn v.1.2.1 ∧ v.1.2.2 = (v.1.2.1.length : Int) + 1 ∧ CurOk v.2) ?_ NN _ ⟨⟨by simp, fun i p hp => by simp at hp⟩, by simp, h⟩ (NN_big (by show (8 - (1 : Int)).toNat ≤ _; decide))
  rintro rec ⟨⟨u, l, i⟩, g1⟩ ⟨hl, hi, hg⟩ hrec
  simp only at hl hi hg hrec ⊢
  obtain ⟨x, g2, e2, hx, hg2⟩ := sl1Below_g hg (n := 6) (by omega)
  rw [e2, bnd_some]
  have hx1 := hx.2.1 (by omega)
  simp only
  rw [W_id (n := 2 + x) (by omega) (by omega)]
  by_cases c : i ≤ 2 + x
  · rw [show decide (i ≤ 2 + x) = true by simpa using c, cnd_tt]
    obtain ⟨p, g3, e3, hp, hg3⟩ := sl4Draw_g hg2 i
    rw [e3, bnd_some]
    have hlen := hl.1
    simp only [List.length_cons, List.length_nil, len_path]
    rw [ifA_pos (by omega)]
    obtain ⟨pid, pk, ps, pd⟩ := p
    simp only [appe_path] at hp ⊢
    refine hrec (((), (l ++ [⟨pid, pk, ps, pd⟩], W (i + 1))), g3) ⟨⟨by simp; omega, fun j q hq => ?_⟩, ?_, hg3⟩ ?_
    · rcases Nat.lt_or_ge j l.length with hj | hj
      · rw [List.getElem?_append_left hj] at hq
        exact hl.2 j q hq
      · rw [List.getElem?_append_right hj] at hq
        have : j - l.length = 0 := by
          rcases Nat.eq_zero_or_pos (j - l.length) with h | h
          · exact h
          · rw [List.getElem?_eq_none (by simp; omega)] at hq; cases hq
        rw [this] at hq
        simp at hq
        subst hq
        refine ⟨?_, hp.2⟩
        show pid = _
        rw [hp.1]; omega
    · show W (i + 1) = _
      rw [W_id (by omega) (by omega)]; simp; omega
    · show (8 - W (i + 1)).toNat < (8 - i).toNat
      rw [W_id (by omega) (by omega)]; omega
  · rw [show decide (i ≤ 2 + x) = false by simpa using c, cnd_ff]
    exact ⟨_, rfl, ⟨hl, by show 2 ≤ l.length; omega⟩, hg2⟩
theorem sl5Any_g {g : L1Cur} (h : CurOk g) : Gives (S_sl5Any g) fun l => l.length ≤ 7 := by
  unfold S_sl5Any
  simp only [rws_y, rws_path, eta_L1Cur, len_path, set_path]
  obtain ⟨l, g1, e1, ⟨hl, h2⟩, hg1⟩ := sl5Draw_u_g h
  rw [e1, bnd_some]
  have h7 : l.length ≤ 7 := hl.1
  have h2 : 2 ≤ l.length := h2
  dsimp only
  obtain ⟨b, g2, e2, _, hg2⟩ := sl1Once_g hg1 (n := 6) (by omega)
  rw [e2, bnd_some]
  cases b with
  | false => rw [cnd_ff]; exact ⟨_, _, rfl, h7, hg2⟩
  | true =>
    rw [cnd_tt]
    obtain ⟨k, g3, e3, hk, hg3⟩ := sl1Below_g hg2 (n := (l.length : Int)) (by omega)
    rw [e3, bnd_some]
    obtain ⟨p, g4, e4, _, hg4⟩ := sl4Any_g hg3
    rw [e4, bnd_some]
    have hk1 := hk.2.1 (by omega)
    have hk0 := hk.1
    rw [ifA_pos (by omega)]
    have hlt : k.toNat < l.length := by omega
    simp only [getn_path]
    rw [getN_at (List.getElem?_eq_getElem hlt)]
    exact ⟨_, _, rfl, by simp; exact h7, hg4⟩
theorem sl15Wants_u_g {g : L1Cur} (h : CurOk g) {l : List Path} (hl : Sm l) : Gives (S_sl15Wants_u l g) fun w => w.length ≤ l.length := by
  have hl' := hl
  unfold Sm at hl'
  unfold S_sl15Wants_u
  simp only [rws_y, rws_path, rws_want, len_path, len_want, geti_path, eta_L1Cur]
  refine gives_run (fun k (w : List Want) g => (((), (l, (w, (k : Int)))), g)) l.length (fun k w => w.length ≤ k) [] g rfl (by omega) (Nat.le_refl _) h ?_ ?_
  · intro rec w g hw hg
    simp only [ltNF, cnd_ff]
    exact gives_some hw hg
  · intro rec k w g hk hw hg hrec
    have hx := List.getElem?_eq_getElem hk
    simp only [ltN hk, cnd_tt, W_n1 (show k ≤ 9223372036854775806 by omega)]
    simp only [Int.natCast_succ] at hrec
    obtain ⟨b, g1, e1, _, hg1⟩ := sl1Once_g hg (n := 2) (by omega)
    rw [e1, bnd_some]
    cases b with
    | true =>
      rw [cnd_tt, getZ_at hx]
      obtain ⟨n, g2, e2, _, hg2⟩ := sl1Below_g hg1 (n := 30) (by omega)
      rw [e2, bnd_some, ifA_pos (by simp; omega)]
      simp only [appe_want1]
      exact hrec _ _ (by simp; omega) hg2
    | false =>
      rw [cnd_ff]
      exact hrec _ _ (by omega) hg1
theorem sl19Lamps_u_g {g : L1Cur} (h : CurOk g) {l : List Path} (hl : l.length ≤ 1000) {rare : Int} (hr : rare ≤ 256) : Gives (S_sl19Lamps_u l rare g) fun x => x.length ≤ 2 * l.length := by
  unfold S_sl19Lamps_u
  simp only [rws_y, rws_path, rws_lamp, len_path, len_lamp, geti_path, eta_L1Cur]
  rw [gives_iff]
  refine iter_ex (fun v => ((l.length : Int) - v.1.2.2.2.2).toNat) (fun v => v.1.2.1 = l ∧ v.1.2.2.1 = rare ∧ 0 ≤ v.1.2.2.2.2 ∧ v.1.2.2.2.2 ≤ (l.length : Int) ∧ (v.1.2.2.2.1.length : Int) ≤ 2 * v.1.2.2.2.2 ∧ CurOk v.2) ?_ NN _ ⟨rfl, rfl, Int.le_refl _, by show (0 : Int) ≤ l.length; omega, by simp, h⟩ (NN_big (by show ((l.length : Int) - 0).toNat ≤ _; omega))
  rintro rec ⟨⟨u, l', rare', x, i⟩, g1⟩ ⟨p1, p2, hi0, hi1, hx, hg⟩ hrec
  simp only at p1 p2 hi0 hi1 hx hg hrec ⊢
  subst p1 p2
  by_cases c : i < (l'.length : Int)
  · rw [show decide (i < (l'.length : Int)) = true by simpa using c, cnd_tt]
    refine iter_ex (fun v => (2 - v.1.2.2.2.2.2).toNat) (fun v => v.1.2.1 = l' ∧ v.1.2.2.1 = rare' ∧ v.1.2.2.2.2.1 = i ∧ 0 ≤ v.1.2.2.2.2.2 ∧ v.1.2.2.2.2.2 ≤ 2 ∧ (v.1.2.2.2.1.length : Int) ≤ 2 * i + v.1.2.2.2.2.2 ∧ CurOk v.2) ?_ NN _ ⟨rfl, rfl, rfl, Int.le_refl _, by show (0 : Int) ≤ 2; decide, by show (x.length : Int) ≤ 2 * i + 0; omega, hg⟩ (NN_big (by show (2 - (0 : Int)).toNat ≤ _; decide))
    rintro rec2 ⟨⟨u2, l2, rare2, x2, i2, k⟩, g2⟩ ⟨q1, q2, q3, hk0, hk1, hx2, hg2⟩ hrec2
    simp only at q1 q2 q3 hk0 hk1 hx2 hg2 hrec2 ⊢
    subst q1 q2 q3
    by_cases ck : k < 2
    · rw [show decide (k < 2) = true by simpa using ck, cnd_tt]
      obtain ⟨b, g3, e3, _, hg3⟩ := sl1Once_g hg2 (n := 5) (by omega)
      rw [e3, bnd_some]
      cases b with
      | true =>
        simp only [Bool.not_true, cnd_ff]
        refine hrec2 _ ⟨rfl, rfl, rfl, ?_, ?_, ?_, hg3⟩ ?_
        · show 0 ≤ W (k + 1)
          rw [W_id (by omega) (by omega)]; omega
        · show W (k + 1) ≤ 2
          rw [W_id (by omega) (by omega)]; omega
        · show (x2.length : Int) ≤ 2 * i2 + W (k + 1)
          rw [W_id (by omega) (by omega)]; omega
        · show (2 - W (k + 1)).toNat < (2 - k).toNat
          rw [W_id (by omega) (by omega)]; omega
      | false =>
        simp only [Bool.not_false, cnd_tt]
        have hlt : i2.toNat < l2.length := by omega
        have hz : ∀ {β : Type} (K : Path → Option β), getZ l2 i2 K = K l2[i2.toNat] := fun K => by
          have e : i2 = ((i2.toNat : Nat) : Int) := by omega
          conv => lhs; rw [e]
          exact getZ_at (List.getElem?_eq_getElem hlt) K
        rw [hz]
        obtain ⟨b, g4, e4, _, hg4⟩ := sl1Once_g hg3 hr
        rw [e4, bnd_some]
        simp only [List.length_cons, List.length_nil]
        rw [ifA_pos (by omega), appe_lamp]
        refine hrec2 ((u2, (l2, rare2, x2 ++ [⟨l2[i2.toNat].id, k, b⟩], i2, W (k + 1))), g4) ⟨rfl, rfl, rfl, ?_, ?_, ?_, hg4⟩ ?_
        · show 0 ≤ W (k + 1)
          rw [W_id (by omega) (by omega)]; omega
        · show W (k + 1) ≤ 2
          rw [W_id (by omega) (by omega)]; omega
        · show ((x2 ++ [_]).length : Int) ≤ 2 * i2 + W (k + 1)
          rw [W_id (by omega) (by omega), List.length_append]; simp; omega
        · show (2 - W (k + 1)).toNat < (2 - k).toNat
          rw [W_id (by omega) (by omega)]; omega
    · rw [show decide (k < 2) = false by simpa using ck, cnd_ff]
      refine hrec _ ⟨rfl, rfl, ?_, ?_, ?_, hg2⟩ ?_
      · show 0 ≤ W (i2 + 1)
        rw [W_id (by omega) (by omega)]; omega
      · show W (i2 + 1) ≤ _
        rw [W_id (by omega) (by omega)]; omega
      · show (x2.length : Int) ≤ 2 * W (i2 + 1)
        rw [W_id (by omega) (by omega)]; omega
      · show ((l2.length : Int) - W (i2 + 1)).toNat < ((l2.length : Int) - i2).toNat
        rw [W_id (by omega) (by omega)]; omega
  · rw [show decide (i < (l'.length : Int)) = false by simpa using c, cnd_ff]
    exact ⟨_, rfl, by show x.length ≤ _; omega, hg⟩
theorem sl14Any_g {g : L1Cur} (h : CurOk g) : Gives (S_sl14Any g) fun x => x.1.length ≤ 7 := by
  unfold S_sl14Any
  simp only [rws_y, rws_path, rws_i, rC_v, eta_L1Cur, eta_Control]
  obtain ⟨l, g1, e1, hl, hg1⟩ := sl5Any_g h
  rw [e1, bnd_some]
  have hl : l.length ≤ 7 := hl
  obtain ⟨c, g2, e2, _, hg2⟩ := sl14Draw_g hg1 (l := l) (by unfold Sm; omega)
  rw [e2, bnd_some]
  obtain ⟨k, g3, e3, _, hg3⟩ := sl1Below_g hg2 (n := 10) (by omega)
  rw [e3, bnd_some]
  obtain ⟨a, g4, e4, _, hg4⟩ := sl1Int_g hg3 (l := [Neg.neg 1, 1000000, 1000001]) (by simp) (by simp) (P := fun _ => True) (fun _ _ => trivial)
  obtain ⟨b, g5, e5, _, hg5⟩ := sl1Int_g hg3 (l := [Neg.neg 1, 1, 9]) (by simp) (by simp) (P := fun _ => True) (fun _ _ => trivial)
  simp only [e4, e5, bnd_some, cnd_if]
  split
  · exact ⟨_, _, rfl, hl, hg4⟩
  split
  · exact ⟨_, _, rfl, hl, hg5⟩
  split
  · exact ⟨_, _, rfl, hl, hg3⟩
  split
  · exact ⟨_, _, rfl, hl, hg3⟩
  · exact ⟨_, _, rfl, hl, hg3⟩
theorem setw (l : List Want) (a b : Int) {β : Type} (K : List Want → Option β) : rws wantR (List.set (l.map wantR.enc) 0 [I a, I b]) K = K (l.set 0 ⟨a, b⟩) := by
  have e : List.set (l.map wantR.enc) 0 [I a, I b] = (l.set 0 (⟨a, b⟩ : Want)).map wantR.enc := by
    cases l <;> rfl
  rw [e, rws_want]
theorem setl (l : List Lamp) (a b : Int) (c : Bool) {β : Type} (K : List Lamp → Option β) : rws lampR (frzss (List.set (l.map lampR.enc) 0 [I a, I b, Bl c])) K = K (l.set 0 ⟨a, b, c⟩) := by
  have e : List.set (l.map lampR.enc) 0 [I a, I b, Bl c] = (l.set 0 (⟨a, b, c⟩ : Lamp)).map lampR.enc := by
    cases l <;> rfl
  rw [e, frzss_lamp, rws_lamp]
theorem n_wv {β : Type} (l : List Want) (n : Nat) (K : Want → Option β) : n_want l n K = getN l n K := getn_want l n K
theorem n_lv {β : Type} (l : List Lamp) (n : Nat) (K : Lamp → Option β) : n_lamp l n K = getN l n K := getn_lamp l n K
theorem sl15Any_g {g : L1Cur} (h : CurOk g) : Gives (S_sl15Any g) fun x => Sm x.2.2 := by
  unfold S_sl15Any
  simp only [rws_y, rws_path, rws_i, rws_want, rC_v, eta_L1Cur, eta_Control, len_want, len_i, Int.toNat_zero, setw]
  obtain ⟨⟨l, x⟩, g1, e1, hl, hg1⟩ := sl14Any_g h
  rw [e1, bnd_some]
  have hl : l.length ≤ 7 := hl
  obtain ⟨w, g2, e2, hw, hg2⟩ := sl15Wants_u_g hg1 (l := l) (by unfold Sm; omega)
  have hw : w.length ≤ l.length := hw
  simp only
  rw [e2, bnd_some]
  simp only
  have once : ∀ {g : L1Cur} {w : List Want}, CurOk g → w.length ≤ 7 → ∀ (T : Option (((List Path) × (Control × (List Want))) × L1Cur)), (∀ b g', S_sl1Once 6 g = some (b, g') → CurOk g' → T = bnd (some (b, g')) fun r6 => cnd r6.1 (cnd (((x.next.length : Nat) : Int) == 0) (cnd (decide (((x.stage.length : Nat) : Int) > 0)) (bnd (S_sl1Int [59, 60, 61] r6.2) fun r7 => some ((l, (⟨x.stage, r7.1, x.next, x.left⟩, w)), r7.2)) (some ((l, (x, w)), r6.2))) (some ((l, (x, w)), r6.2))) (some ((l, (x, w)), r6.2))) → Gives T fun x => Sm x.2.2 := by
    intro g w hg hw T hT
    have hsw : Sm w := by unfold Sm; omega
    obtain ⟨b, g6, e6, _, hg6⟩ := sl1Once_g hg (n := 6) (by omega)
    rw [hT b g6 e6 hg6, bnd_some]
    obtain ⟨a, g7, e7, _, hg7⟩ := sl1Int_g hg6 (l := [59, 60, 61]) (by simp) (by simp) (P := fun _ => True) (fun _ _ => trivial)
    simp only [e7, bnd_some, cnd_if]
    split
    · split
      · split
        · exact ⟨_, _, rfl, hsw, hg7⟩
        · exact ⟨_, _, rfl, hsw, hg6⟩
      · exact ⟨_, _, rfl, hsw, hg6⟩
    · exact ⟨_, _, rfl, hsw, hg6⟩
  by_cases c : ((w.length : Nat) : Int) > 0
  · have hlt : 0 < w.length := by omega
    have hn : ∀ (K : Want → Option (((List Path) × (Control × (List Want))) × L1Cur)), getN w 0 K = K w[0] := getN_at (List.getElem?_eq_getElem hlt)
    rw [decide_eq_true c, cnd_tt]
    obtain ⟨k, g3, e3, _, hg3⟩ := sl1Below_g hg2 (n := 10) (by omega)
    rw [e3, bnd_some]
    obtain ⟨a, g4, e4, _, hg4⟩ := sl1Below_g hg3 (n := 22) (by omega)
    obtain ⟨b, g5, e5, _, hg5⟩ := sl1Int_g hg3 (l := [Neg.neg 1, 100000, 100001]) (by simp) (by simp) (P := fun _ => True) (fun _ _ => trivial)
    simp only [e4, e5, bnd_some]
    rw [cnd_if]
    split
    · rw [ifA_pos (by omega), n_wv, hn]
      refine once hg4 (w := w.set 0 ⟨a, w[0].wait⟩) (by simp; omega) _ fun b g' e _ => ?_
      rw [e]
    rw [cnd_if]
    split
    · rw [ifA_pos (by omega), n_wv, hn]
      refine once hg5 (w := w.set 0 ⟨w[0].path, b⟩) (by simp; omega) _ fun b g' e _ => ?_
      rw [e]
    · refine once hg3 (w := w) (by omega) _ fun b g' e _ => ?_
      rw [e]
  · rw [decide_eq_false c, cnd_ff]
    refine once hg2 (w := w) (by omega) _ fun b g' e _ => ?_
    rw [e]
theorem appl (l : List Lamp) (a b : Int) (c : Bool) {β : Type} (K : List Lamp → Option β) : rws lampR (l.map lampR.enc ++ [[I a, I b, Bl c]]) K = K (l ++ [⟨a, b, c⟩]) := appe_lamp l a b c K
theorem sl19Any_g {g : L1Cur} (h : CurOk g) : Gives (S_sl19Any g) fun x => Sm x.2 := by
  unfold S_sl19Any
  simp only [rws_y, rws_path, rws_lamp, eta_L1Cur, len_lamp, Int.toNat_zero, setl, frzss_lamp, geti_lamp, appl]
  obtain ⟨l, g1, e1, hl, hg1⟩ := sl5Any_g h
  rw [e1, bnd_some]
  have hl : l.length ≤ 7 := hl
  obtain ⟨x, g2, e2, hx, hg2⟩ := sl19Lamps_u_g hg1 (l := l) (by omega) (rare := 9) (by omega)
  have hx : x.length ≤ 2 * l.length := hx
  rw [e2, bnd_some]
  have hsx : Sm x := by unfold Sm; omega
  simp only
  by_cases c : ((x.length : Nat) : Int) > 0
  · have hlt : 0 < x.length := by omega
    have hn : ∀ (K : Lamp → Option (((List Path) × (List Lamp)) × L1Cur)), getN x 0 K = K x[0] := getN_at (List.getElem?_eq_getElem hlt)
    have hz : ∀ (K : Lamp → Option (((List Path) × (List Lamp)) × L1Cur)), getZ x 0 K = K x[0] := getZ_at (k := 0) (List.getElem?_eq_getElem hlt)
    rw [decide_eq_true c, cnd_tt]
    obtain ⟨k, g3, e3, _, hg3⟩ := sl1Below_g hg2 (n := 9) (by omega)
    rw [e3, bnd_some]
    obtain ⟨a, g4, e4, _, hg4⟩ := sl1Below_g hg3 (n := 22) (by omega)
    obtain ⟨b, g5, e5, _, hg5⟩ := sl1Int_g hg3 (l := [Neg.neg 1, 1, 2]) (by simp) (by simp) (P := fun _ => True) (fun _ _ => trivial)
    simp only [e4, e5, bnd_some]
    rw [cnd_if]
    split
    · rw [ifA_pos (by omega), n_lv, hn]
      exact ⟨_, _, rfl, by unfold Sm at *; simpa using hsx, hg4⟩
    rw [cnd_if]
    split
    · rw [ifA_pos (by omega), n_lv, hn]
      exact ⟨_, _, rfl, by unfold Sm at *; simpa using hsx, hg5⟩
    rw [cnd_if]
    split
    · rw [hz, ifA_pos (by simp; omega)]
      exact ⟨_, _, rfl, by unfold Sm; simp; omega, hg3⟩
    · exact ⟨_, _, rfl, hsx, hg3⟩
  · rw [decide_eq_false c, cnd_ff]
    exact ⟨_, _, rfl, hsx, hg2⟩
theorem sDrawCountKind_g (code : List Int) (h : code.length ≤ 1048576) : ∃ l k, S_sDrawCountKind code = some (l, k) ∧ l.length ≤ 7 := by
  unfold S_sDrawCountKind
  simp only [rws_y, rws_path, eta_L1Cur]
  obtain ⟨g, e, hg⟩ := sl1New_g code h
  rw [e, bnd_some]
  obtain ⟨l, g1, e1, hl, hg1⟩ := sl5Any_g hg
  rw [e1, bnd_some]
  obtain ⟨k, g2, e2, _, _⟩ := sl1Below_g hg1 (n := 5) (by omega)
  rw [e2]
  exact ⟨_, _, rfl, hl⟩
theorem sDrawOpenShare_g (code : List Int) (h : code.length ≤ 1048576) : ∃ l k u, S_sDrawOpenShare code = some (l, (k, u)) ∧ SmR l := by
  unfold S_sDrawOpenShare S_sDrawLightShown S_sDrawShownAt
  simp only [rws_y, rws_note_oo, eta_L1Cur]
  obtain ⟨g, e, hg⟩ := sl1New_g code h
  rw [e, bnd_some]
  obtain ⟨l, g1, e1, hl, hg1⟩ := sl27Any_g hg
  rw [e1, bnd_some]
  obtain ⟨k, g2, e2, _, _⟩ := sl1Int_g hg1 (l := [Neg.neg 1, 0, 3, 9, 20, 40, 1000000]) (by simp) (by simp) (P := fun _ => True) (fun _ _ => trivial)
  rw [e2, bnd_some, bnd_some, bnd_some]
  obtain ⟨m, g3, e3, _, _⟩ := sl1Below_g hg (n := 5) (by omega)
  simp only
  rw [e3, bnd_some, bnd_some, bnd_some]
  obtain ⟨u, g4, e4, _, _⟩ := sl1Int_g hg (l := [0, 5, 20, 50, 1000000, 1000001]) (by simp) (by simp) (P := fun _ => True) (fun _ _ => trivial)
  simp only
  rw [e4]
  exact ⟨_, _, _, rfl, hl⟩
theorem sDrawLongestWait_g (code : List Int) (h : code.length ≤ 1048576) : ∃ w, S_sDrawLongestWait code = some w ∧ Sm w := by
  unfold S_sDrawLongestWait S_sDrawAreWants
  simp only [rws_y, rws_path, rws_want, eta_L1Cur]
  obtain ⟨g, e, hg⟩ := sl1New_g code h
  rw [e, bnd_some]
  obtain ⟨x, g1, e1, hx, _⟩ := sl15Any_g hg
  rw [e1]
  exact ⟨_, rfl, hx⟩
theorem sDrawCountBroken_g (code : List Int) (h : code.length ≤ 1048576) : ∃ x, S_sDrawCountBroken code = some x ∧ Sm x := by
  unfold S_sDrawCountBroken S_sDrawAreLamps
  simp only [rws_y, rws_path, rws_lamp, eta_L1Cur]
  obtain ⟨g, e, hg⟩ := sl1New_g code h
  rw [e, bnd_some]
  obtain ⟨x, g1, e1, hx, _⟩ := sl19Any_g hg
  rw [e1]
  exact ⟨_, rfl, hx⟩
end Go.Sh
