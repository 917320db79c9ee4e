/- Towns of all kinds, drawn. -/
import Derived.Test.YtkbhcieejpbjpaaGreatV1
set_option linter.all false
namespace Go.Sh
open Go.Fx
theorem gives_iter {A α V : Type} {F : (V → Option (α × L1Cur)) → V → Option (α × L1Cur)} {P : α → Prop} (st : Nat → A → L1Cur → V) (N : Nat) (J : Nat → A → Prop)
    (h0 : ∀ rec a g, J N a → CurOk g → Gives (F rec (st N a g)) P)
    (h1 : ∀ rec k a g, k < N → J k a → CurOk g → (∀ a' g', J (k + 1) a' → CurOk g' → Gives (rec (st (k + 1) a' g')) P) → Gives (F rec (st k a g)) P) :
    ∀ (n k : Nat) (a : A) (g : L1Cur), N - k < n → k ≤ N → J k a → CurOk g → Gives (iter F n (st k a g)) P
  | 0, k, a, g, h, _, _, _ => by omega
  | n + 1, k, a, g, h, hk, hJ, hg => by
    rw [iter_succ]
    by_cases c : k = N
    · subst c; exact h0 _ a g hJ hg
    · exact h1 _ k a g (by omega) hJ hg fun a' g' hJ' hg' => gives_iter st N J h0 h1 n (k + 1) a' g' (by omega) (by omega) hJ' hg'
theorem gives_run {A α V : Type} {F : (V → Option (α × L1Cur)) → V → Option (α × L1Cur)} {P : α → Prop} {v : V} (st : Nat → A → L1Cur → V) (N : Nat) (J : Nat → A → Prop) (a : A) (g : L1Cur) (hv : v = st 0 a g) (hN : N ≤ 1099511627776) (hJ : J 0 a) (hg : CurOk g)
    (h0 : ∀ rec a g, J N a → CurOk g → Gives (F rec (st N a g)) P)
    (h1 : ∀ rec k a g, k < N → J k a → CurOk g → (∀ a' g', J (k + 1) a' → CurOk g' → Gives (rec (st (k + 1) a' g')) P) → Gives (F rec (st k a g)) P) : Gives (iter F NN v) P := by
  rw [hv]
  exact gives_iter st N J h0 h1 NN 0 a g (NN_big (by omega)) (Nat.zero_le _) hJ hg
theorem gives_some {α : Type} {a : α} {g : L1Cur} {P : α → Prop} (h : P a) (hg : CurOk g) : Gives (some (a, g)) P := ⟨a, g, rfl, h, hg⟩
theorem appe_want1 (l : List Want) (a b : Int) {β : Type} (K : List Want → Option β) : rws wantR (l.map wantR.enc ++ [[I a, I b]]) K = K (l ++ [(⟨a, b⟩ : Want)]) := appe_want l a b K
theorem ltN {k n : Nat} (h : k < n) : decide ((k : Int) < (n : Int)) = true := by simpa using h
theorem ltNF (n : Nat) : decide ((n : Int) < (n : Int)) = false := by simp
theorem sl15Wants_g {g : L1Cur} (h : CurOk g) {l : List Path} (hl : Sm l) : Gives (S_sl15Wants l g) fun w => w.length ≤ l.length := by
  have hl' := hl
  unfold Sm at hl'
  unfold S_sl15Wants
  simp only [rws_y, rws_path, rws_want, len_path, len_want, geti_path, eta_L1Cur]
  refine gives_run (fun k (w : List Want) g => (((), (l, (w, (k : Int)))), g)) l.length (fun k w => w.length ≤ k) [] g rfl (by omega) (Nat.le_refl _) h ?_ ?_
  · intro rec w g hw hg
    simp only [ltNF, cnd_ff]
    exact gives_some hw hg
  · intro rec k w g hk hw hg hrec
    have hx := List.getElem?_eq_getElem hk
    simp only [ltN hk, cnd_tt, W_n1 (show k ≤ 9223372036854775806 by omega)]
    simp only [Int.natCast_succ] at hrec
    obtain ⟨b, g1, e1, _, hg1⟩ := sl1Once_g hg (n := 2) (by omega)
    rw [e1, bnd_some]
    cases b with
    | true =>
      rw [cnd_tt, getZ_at hx]
      obtain ⟨n, g2, e2, _, hg2⟩ := sl1Below_g hg1 (n := 30) (by omega)
      rw [e2, bnd_some, ifA_pos (by simp; omega)]
      simp only [appe_want1]
      exact hrec _ _ (by simp; omega) hg2
    | false =>
      rw [cnd_ff]
      exact hrec _ _ (by omega) hg1
theorem sl16Prio_g {g : L1Cur} (h : CurOk g) {l : List Path} (hl : Sm l) : Gives (S_sl16Prio l g) fun _ => True := by
  have hl' := hl
  unfold Sm at hl'
  unfold S_sl16Prio
  simp only [rws_y, rws_path, len_path, geti_path, eta_L1Cur]
  refine gives_run (fun k (_ : Unit) g => (((), (l, (k : Int))), (⟨0, 0⟩, g))) l.length (fun _ _ => True) () g rfl (by omega) trivial h ?_ ?_
  · intro rec _ g _ hg
    simp only [ltNF, cnd_ff]
    exact gives_some trivial hg
  · intro rec k _ g hk _ hg hrec
    have hx := List.getElem?_eq_getElem hk
    simp only [ltN hk, cnd_tt, W_n1 (show k ≤ 9223372036854775806 by omega), getZ_at hx]
    simp only [Int.natCast_succ] at hrec
    cases (l[k].kind == 3) with
    | false => rw [cnd_ff]; exact hrec () _ trivial hg
    | true =>
      rw [cnd_tt]
      obtain ⟨b, g1, e1, _, hg1⟩ := sl1Once_g hg (n := 3) (by omega)
      rw [e1, bnd_some]
      cases b with
      | true => rw [Bool.not_true, cnd_ff]; exact hrec () _ trivial hg1
      | false =>
        rw [Bool.not_false, cnd_tt]
        obtain ⟨n, g2, e2, _, hg2⟩ := sl1Below_g hg1 (n := 20) (by omega)
        rw [e2, bnd_some]
        exact gives_some trivial hg2
theorem stage_at {st : List (List Int)} {r : Int} (h0 : 0 ≤ r) (h1 : r < (st.length : Int)) : ∃ s, s ∈ st ∧ ∀ {β : Type} (K : List Int → Option β), getZ st r K = K s := by
  have hlt : r.toNat < st.length := by omega
  refine ⟨st[r.toNat], List.getElem_mem hlt, fun K => ?_⟩
  have e : r = ((r.toNat : Nat) : Int) := by omega
  conv => lhs; rw [e]
  exact getZ_at (List.getElem?_eq_getElem hlt) K
theorem sl14Draw_g {g : L1Cur} (h : CurOk g) {l : List Path} (hl : Sm l) : Gives (S_sl14Draw l g) SmControl := by
  obtain ⟨n40, hs⟩ := stagesOf_sm l
  unfold S_sl14Draw
  simp only [rws_y, rws_path, eta_L1Cur, sStagesOf_v l hl, bnd_some, len_il, geti_il_so, rC_v, eta_Control]
  by_cases c : stagesOf l = []
  · rw [c]
    exact gives_some (by constructor <;> (unfold Sm; simp)) h
  have hp : 0 < (stagesOf l).length := List.length_pos_iff.2 c
  rw [show (((stagesOf l).length : Int) == 0) = false by simp; omega, cnd_ff]
  obtain ⟨r, g1, e1, hr, hg1⟩ := sl1Below_g h (n := ((stagesOf l).length : Int)) (by omega)
  rw [e1, bnd_some]
  obtain ⟨s, hsm, hk⟩ := stage_at hr.1 (hr.2.1 (by omega))
  have hsl := hs s hsm
  have hss : Sm s := by unfold Sm; omega
  have h0 : Sm ([] : List Int) := by unfold Sm; simp
  dsimp only
  rw [hk, ifA_pos (by simp; omega)]
  obtain ⟨k, g2, e2, _, hg2⟩ := sl1Below_g hg1 (n := 12) (by omega)
  rw [e2, bnd_some]
  obtain ⟨b, g3, e3, _, hg3⟩ := sl1Once_g hg2 (n := 3) (by omega)
  rw [e3, bnd_some]
  simp only [clrs_i, rws_i]
  cases b with
  | false => rw [cnd_ff]; exact gives_some ⟨hss, h0⟩ hg3
  | true =>
    rw [cnd_tt]
    obtain ⟨q, g4, e4, hq, hg4⟩ := sl1Below_g hg3 (n := ((stagesOf l).length : Int)) (by omega)
    rw [e4, bnd_some]
    obtain ⟨s2, hsm2, hk2⟩ := stage_at hq.1 (hq.2.1 (by omega))
    have hss2 : Sm s2 := by have := hs s2 hsm2; unfold Sm; omega
    dsimp only
    rw [hk2]
    have hx : SmControl ⟨s, k, [], 0⟩ := ⟨hss, h0⟩
    rw [sAskStage_v l _ s2 hl hx hss2, bnd_some]
    obtain ⟨m, g5, e5, hm, hg5⟩ := sl1Below_g hg4 (n := 3) (by omega)
    rw [e5, bnd_some]
    have hm1 := hm.2.1 (by omega)
    have hm0 := hm.1
    refine gives_run (fun j (x : Control) g => ((l, (m - (j : Int))), ((⟨[], 0, [], 0⟩ : Control), x), g)) m.toNat (fun _ x => SmControl x) (askStage l ⟨s, k, [], 0⟩ s2).1 g5 (by simp) (by omega) (askStage_sm hx hss2) hg5 ?_ ?_
    · intro rec x g hJ hg
      rw [show decide (m - ((m.toNat : Nat) : Int) > 0) = false from decide_eq_false (by omega), cnd_ff]
      exact gives_some hJ hg
    · intro rec j x g hj hJ hg hrec
      rw [show decide (m - (j : Int) > 0) = true from decide_eq_true (by omega), cnd_tt]
      simp only [sTickControl_v l x hl hJ, bnd_some, rC_v, eta_Control]
      rw [show W (m - (j : Int) - 1) = m - ((j + 1 : Nat) : Int) by rw [W_id (by omega) (by omega)]; omega]
      exact hrec _ _ (tick_sm hJ) hg
theorem noteLights_len {l : List Note} {s : Int} {v : List Int} : (noteLights l s v).1.length ≤ l.length + 1 := by
  unfold noteLights addEntry
  repeat' split
  all_goals simp
theorem noteLights_mem {l : List Note} {s : Int} {v : List Int} : ∀ y ∈ (noteLights l s v).1, y ∈ l ∨ y.lights = v := by
  intro y hy
  unfold noteLights addEntry at hy
  repeat' split at hy
  all_goals first
    | exact .inl hy
    | (rcases List.mem_append.1 hy with hy | hy
       · exact .inl hy
       · rw [List.mem_singleton.1 hy]; exact .inr rfl)
theorem sl27Draw_g {g : L1Cur} (h : CurOk g) {n : Int} (h0 : 0 ≤ n) (h1 : n ≤ 100) : Gives (S_sl27Draw_u n g) fun l => (SmR l ∧ ∀ y ∈ l, (y.lights.length : Int) = n) ∧ l.length ≤ 8 := by
  unfold S_sl27Draw_u
  simp only [rws_y, rws_note_uu, rws_i, len_i, eta_L1Cur]
  obtain ⟨t, g1, e1, _, hg1⟩ := sl1Below_g h (n := 5) (by omega)
  rw [e1, bnd_some]
  obtain ⟨m, g2, e2, hm, hg2⟩ := sl1Below_g hg1 (n := 8) (by omega)
  rw [e2, bnd_some]
  have hm1 := hm.2.1 (by omega)
  have hm0 := hm.1
  refine gives_run (fun j (a : List Note × Int) g => (((), (n, (a.1, (a.2, m - (j : Int))))), g)) m.toNat (fun j a => (SmR a.1 ∧ ∀ y ∈ a.1, (y.lights.length : Int) = n) ∧ a.1.length ≤ j) ([], t) g2 (by simp) (by omega) ⟨⟨smR_nil, fun y hy => by cases hy⟩, Nat.le_refl _⟩ hg2 ?_ ?_
  · intro rec a g hJ hg
    simp only
    rw [show decide (m - ((m.toNat : Nat) : Int) > 0) = false from decide_eq_false (by omega), cnd_ff]
    exact gives_some ⟨hJ.1, by have := hJ.2; omega⟩ hg
  · intro rec j a g hj hJ hg hrec
    simp only
    rw [show decide (m - (j : Int) > 0) = true from decide_eq_true (by omega), cnd_tt]
    refine gives_run (fun k (x : List Int) g => (((), (n, (a.1, (a.2, (m - (j : Int), (x, (k : Int))))))), g)) n.toNat (fun k x => x.length = k) [] g rfl (by omega) rfl hg ?_ ?_
    · intro rec2 x g hx hg
      simp only
      rw [show decide (((n.toNat : Nat) : Int) < n) = false from decide_eq_false (by omega), cnd_ff]
      have hxs : Sm x := by unfold Sm; omega
      have ha : a.1.length ≤ 8 := by have := hJ.2; omega
      simp only [borss_note, borss_i, rws_note_ss, rws_i, sNoteLights_v a.1 a.2 x hJ.1.1 (by omega) hxs, bnd_some, AV.okU, okUs, okUss_note, Bool.and_self, toUss_note, rws_note_uu]
      rw [ifA_pos trivial]
      obtain ⟨q, g3, e3, _, hg3⟩ := sl1Below_g hg (n := 9) (by omega)
      rw [e3, bnd_some]
      rw [show W (m - (j : Int) - 1) = m - ((j + 1 : Nat) : Int) by rw [W_id (by omega) (by omega)]; omega]
      exact hrec (_, _) _ ⟨⟨noteLights_sm hJ.1.1 (by omega) hxs, fun y hy => by
        rcases noteLights_mem y hy with h2 | h2
        · exact hJ.1.2 y h2
        · rw [h2, hx]; omega⟩, by have := noteLights_len (l := a.1) (s := a.2) (v := x); have := hJ.2; show (noteLights a.1 a.2 x).1.length ≤ _; omega⟩ hg3
    · intro rec2 k x g hk hx hg hrec2
      simp only
      rw [show decide (((k : Nat) : Int) < n) = true from decide_eq_true (by omega), cnd_tt]
      obtain ⟨q, g3, e3, _, hg3⟩ := sl1Below_g hg (n := 3) (by omega)
      rw [e3, bnd_some, ifA_pos (by simp; omega)]
      simp only [rws_app_i', W_n1 (show k ≤ 9223372036854775806 by omega)]
      simp only [Int.natCast_succ] at hrec2
      exact hrec2 _ _ (by simp; omega) hg3
theorem frzss_set : ∀ (xs : List (List AV)) (i : Nat) (r : List AV), frzss (xs.set i r) = (frzss xs).set i (frzs r)
  | [], _, _ => rfl
  | x :: xs, 0, r => rfl
  | x :: xs, i + 1, r => by simp only [List.set_cons_succ, frzss, frzss_set xs i r]
theorem smR_set {l : List Note} {i : Nat} {x : Note} (h : SmR l) (hx : Sm x.lights) : SmR (l.set i x) := by
  refine ⟨by have := h.1; unfold Sm at this ⊢; rw [List.length_set]; exact this, fun y hy => ?_⟩
  rcases List.mem_or_eq_of_mem_set hy with h2 | rfl
  · exact h.2 y h2
  · exact hx
theorem getn_raw3 {β : Type} {xs : List (List AV)} {i : Nat} {a b c : AV} (hi : i < xs.length) (K : AV × (AV × AV) → Option β) : getn (rawK 3) (xs.set i [a, b, c]) i K = K (a, (b, c)) := by
  unfold getn
  rw [List.getElem?_set_self hi]
  rfl
theorem sl27Any_g {g : L1Cur} (h : CurOk g) : Gives (S_sl27Any g) SmR := by
  unfold S_sl27Any
  simp only [rws_y, eta_L1Cur, len_note, frzss_note, rws_note_oo]
  obtain ⟨n, g1, e1, hn, hg1⟩ := sl1Below_g h (n := 4) (by omega)
  rw [e1, bnd_some]
  have hn1 := hn.2.1 (by omega)
  have hn0 := hn.1
  have hW : W (1 + n) = 1 + n := W_id (by omega) (by omega)
  obtain ⟨l, g2, e2, ⟨⟨hl, hln⟩, hl8⟩, hg2⟩ := sl27Draw_g hg1 (n := 1 + n) (by omega) (by omega)
  dsimp only
  rw [hW, e2, bnd_some]
  dsimp only
  by_cases c : l = []
  · subst c
    exact gives_some smR_nil hg2
  have hp : 0 < l.length := List.length_pos_iff.2 c
  rw [show (((l.length : Nat) : Int) == 0) = false by simp; omega, cnd_ff]
  obtain ⟨r, g3, e3, hr, hg3⟩ := sl1Below_g hg2 (n := ((l.length : Nat) : Int)) (by omega)
  rw [e3, bnd_some]
  have hr1 := hr.2.1 (by omega)
  have hr0 := hr.1
  have hlt : r.toNat < l.length := by omega
  have hx := List.getElem?_eq_getElem hlt
  generalize l[r.toNat] = p at hx
  have hpl : Sm p.lights := hl.2 p (List.mem_of_getElem? hx)
  have hpn := hln p (List.mem_of_getElem? hx)
  have hpl' := hpl
  unfold Sm at hpl'
  obtain ⟨q, g4, e4, _, hg4⟩ := sl1Below_g hg3 (n := 9) (by omega)
  rw [e4, bnd_some]
  obtain ⟨a, g5, e5, _, hg5⟩ := sl1Int_g hg4 (l := [Neg.neg 1, 0, 1000000, 1000001]) (by simp) (by simp) (P := fun _ => True) (fun _ _ => trivial)
  obtain ⟨b, g6, e6, _, hg6⟩ := sl1Int_g hg4 (l := [Neg.neg 1, 3]) (by simp) (by simp) (P := fun _ => True) (fun _ _ => trivial)
  simp only [e5, e6, bnd_some, getn_note_uu, getN_at hx, frzss_set, frzss_note, frzs, AV.frz, frzss_i, List.length_set, len_note]
  have hcond : (0 ≤ r ∧ r < ((l.length : Nat) : Int)) := ⟨hr0, hr1⟩
  simp only [ifA_pos hcond, cnd_if]
  split
  · rw [set_note_ooo]
    exact gives_some (smR_set hl hpl) hg5
  split
  · rw [ifA_pos (by simp; omega), getn_raw3 (by rw [len_note]; exact hlt)]
    rw [List.set_set]
    have e : List.map iR.enc p.lights ++ [[I 1]] = (p.lights ++ [1]).map iR.enc := (List.map_append (f := iR.enc) (l₁ := p.lights) (l₂ := [(1 : Int)])).symm
    rw [e]
    refine (congrArg (fun z => Gives z SmR) (set_note_ooo l r.toNat p.second (p.lights ++ [1]) p.sig fun l7 => some (l7, g4))).mpr ?_
    exact gives_some (smR_set hl (by show Sm (p.lights ++ [1]); unfold Sm; simp; omega)) hg4
  split
  · rw [set_note_ooo]
    exact gives_some (smR_set hl hpl) hg4
  split
  · have h0 : 0 < p.lights.length := by omega
    have hx0 := List.getElem?_eq_getElem h0
    simp only [borss_i, geti_i, getZ0 hx0, Int.toNat_zero, getn_i, getN_at hx0]
    have e : (p.lights.map iR.enc).set 0 [I b] = (p.lights.set 0 b).map iR.enc := (List.map_set (f := iR.enc) (l := p.lights) (i := 0) (a := b)).symm
    rw [e, set_note_ooo]
    exact gives_some (smR_set hl (by show Sm (p.lights.set 0 b); unfold Sm; rw [List.length_set]; omega)) hg6
  · exact gives_some hl hg4
theorem sl33Draw_p {g : L1Cur} (h : CurOk g) : Gives (S_sl33Draw g) fun t => SmTown t ∧ t.paths.length ≤ 7 ∧ t.lamps.length ≤ 14 := by
  unfold S_sl33Draw
  simp only [rC_v, rT_ss, rT_so, rT_oo, rT_uu, rws_y, rws_path, rws_want, rws_lamp, rws_note_oo, eta_L1Cur]
  obtain ⟨l, g1, e1, hl, hg1⟩ := sl5Draw_g h
  rw [e1, bnd_some]
  have hs := drawn_sm hl.1
  simp only [sNewTown_v l hs, bnd_some]
  have hp := newTown_paths l
  have hl7 := hl.1.1
  obtain ⟨x, g2, e2, hx, hg2⟩ := sl19Lamps_g hg1 (l := (newTown l).1.paths) (by omega) (rare := 40) (by omega)
  rw [e2, bnd_some]
  obtain ⟨h0, h1, h2, h3, h4⟩ := newTown_sm hs
  exact ⟨_, _, rfl, ⟨⟨h0, h1, h2, by show x.length ≤ _; omega, h4⟩, by show (newTown l).1.paths.length ≤ 7; omega, by show x.length ≤ 14; omega⟩, hg2⟩
theorem sl33Any_g {g : L1Cur} (h : CurOk g) : Gives (S_sl33Any g) fun t => SmTown t ∧ t.lamps.length ≤ 14 := by
  unfold S_sl33Any
  simp only [rC_v, rT_ss, rT_so, rT_oo, rT_uu, rws_y, rws_path, rws_i, rws_want, rws_lamp, rws_note_oo, eta_L1Cur, eta_Control, len_want]
  obtain ⟨t, g1, e1, ⟨ht, hp7, hl14⟩, hg1⟩ := sl33Draw_p h
  rw [e1, bnd_some]
  obtain ⟨h0, h1, h2, h3, h4⟩ := ht
  have h0' := h0
  unfold Sm at h0'
  obtain ⟨x, g2, e2, hx, hg2⟩ := sl14Draw_g hg1 h0
  dsimp only
  rw [e2, bnd_some]
  obtain ⟨w, g3, e3, hw, hg3⟩ := sl15Wants_g hg2 h0
  dsimp only
  rw [e3, bnd_some]
  have hws : Sm w := by unfold Sm; omega
  obtain ⟨p, g4, e4, _, hg4⟩ := sl16Prio_g hg3 h0
  dsimp only
  rw [e4, bnd_some]
  obtain ⟨k, g5, e5, _, hg5⟩ := sl1Below_g hg4 (n := 12) (by omega)
  dsimp only
  rw [e5, bnd_some]
  obtain ⟨a, g6, e6, _, hg6⟩ := sl1Int_g hg5 (l := [Neg.neg 1, 1000, 1001]) (by simp) (by simp) (P := fun _ => True) (fun _ _ => trivial)
  obtain ⟨b, g7, e7, _, hg7⟩ := sl1Int_g hg5 (l := [Neg.neg 1, 1000000, 1000001]) (by simp) (by simp) (P := fun _ => True) (fun _ _ => trivial)
  obtain ⟨r, g8, e8, hr, hg8⟩ := sl27Any_g hg5
  simp only [e6, e7, e8, bnd_some, cnd_if, appe_want1]
  split
  · exact gives_some ⟨⟨h0, ⟨hx.1, hx.2⟩, hws, h3, h4⟩, hl14⟩ hg5
  split
  · rw [ifA_pos (by simp; omega)]
    exact gives_some ⟨⟨h0, ⟨hx.1, hx.2⟩, by show Sm (w ++ [_]); unfold Sm; simp; omega, h3, h4⟩, hl14⟩ hg5
  split
  · exact gives_some ⟨⟨h0, ⟨hx.1, hx.2⟩, hws, h3, h4⟩, hl14⟩ hg5
  split
  · obtain ⟨y, g9, e9, hy, hg9⟩ := sl19Lamps_g hg5 (l := t.paths) (by omega) (rare := 3) (by omega)
    rw [e9, bnd_some]
    exact gives_some ⟨⟨h0, ⟨hx.1, hx.2⟩, hws, by show Sm y; unfold Sm; omega, h4⟩, by show y.length ≤ 14; omega⟩ hg9
  split
  · exact gives_some ⟨⟨h0, ⟨hx.1, hx.2⟩, hws, h3, h4⟩, hl14⟩ hg5
  split
  · exact gives_some ⟨⟨h0, ⟨hx.1, hx.2⟩, hws, h3, hr⟩, hl14⟩ hg8
  split
  · exact gives_some ⟨⟨h0, ⟨hx.1, hx.2⟩, hws, h3, h4⟩, hl14⟩ hg6
  split
  · exact gives_some ⟨⟨h0, ⟨hx.1, hx.2⟩, hws, h3, h4⟩, hl14⟩ hg7
  · exact gives_some ⟨⟨h0, ⟨hx.1, hx.2⟩, hws, h3, h4⟩, hl14⟩ hg5
theorem sDrawNewTown_g (code : List Int) (h : code.length ≤ 1048576) : ∃ l, S_sDrawNewTown code = some l ∧ Sm l := by
  unfold S_sDrawNewTown S_sDrawArePaths
  simp only [rws_y, rws_path, eta_L1Cur]
  obtain ⟨g, e, hg⟩ := sl1New_g code h
  rw [e, bnd_some]
  obtain ⟨l, g1, e1, hl, _⟩ := sl5Any_g hg
  rw [e1, bnd_some]
  have hl : l.length ≤ 7 := hl
  exact ⟨l, rfl, by unfold Sm; omega⟩
theorem sDrawSeenNow_g (code : List Int) (h : code.length ≤ 1048576) : ∃ t, S_sDrawSeenNow code = some t ∧ SmTown t := by
  unfold S_sDrawSeenNow S_sDrawIsTown
  simp only [rT_ss, rT_so, rT_oo, rT_uu, rws_y, eta_L1Cur]
  obtain ⟨g, e, hg⟩ := sl1New_g code h
  rw [e, bnd_some]
  obtain ⟨t, g1, e1, ⟨ht, _⟩, _⟩ := sl33Any_g hg
  rw [e1, bnd_some]
  exact ⟨t, rfl, ht⟩
theorem appe_lamp1 (l : List Lamp) (a b : Int) (c : Bool) {β : Type} (K : List Lamp → Option β) : rws lampR (l.map lampR.enc ++ [[I a, I b, Bl c]]) K = K (l ++ [(⟨a, b, c⟩ : Lamp)]) := appe_lamp l a b c K
theorem sDrawEqualTowns_g (code : List Int) (h : code.length ≤ 1048576) : ∃ a b, S_sDrawEqualTowns code = some (a, b) ∧ SmTown a ∧ SmTown b := by
  unfold S_sDrawEqualTowns
  simp only [rC_v, rT_ss, rT_so, rT_oo, rT_uu, rws_y, rws_path, rws_want, rws_lamp, rws_note_so, eta_L1Cur, eta_Control, eta_Town, len_lamp]
  obtain ⟨g, e, hg⟩ := sl1New_g code h
  rw [e, bnd_some]
  obtain ⟨t, g1, e1, ⟨ht, ht14⟩, hg1⟩ := sl33Any_g hg
  rw [e1, bnd_some]
  dsimp only
  rw [sl33Copy_v t ht, bnd_some]
  obtain ⟨k, g2, e2, _, hg2⟩ := sl1Below_g hg1 (n := 6) (by omega)
  rw [e2, bnd_some]
  obtain ⟨u, g3, e3, ⟨hu, _⟩, hg3⟩ := sl33Any_g hg2
  obtain ⟨h0, h1, h2, h3, h4⟩ := ht
  have h3' := h3
  unfold Sm at h3'
  simp only [e3, bnd_some, cnd_if, appe_lamp1]
  split
  · exact ⟨_, _, rfl, ⟨h0, h1, h2, h3, h4⟩, hu⟩
  split
  · exact ⟨_, _, rfl, ⟨h0, h1, h2, h3, h4⟩, ⟨h0, h1, h2, h3, h4⟩⟩
  split
  · exact ⟨_, _, rfl, ⟨h0, h1, h2, h3, h4⟩, ⟨h0, h1, h2, h3, h4⟩⟩
  split
  · rw [ifA_pos (by simp; omega)]
    exact ⟨_, _, rfl, ⟨h0, h1, h2, h3, h4⟩, ⟨h0, h1, h2, by show Sm (t.lamps ++ [_]); unfold Sm; simp; omega, h4⟩⟩
  · exact ⟨_, _, rfl, ⟨h0, h1, h2, h3, h4⟩, ⟨h0, h1, h2, h3, h4⟩⟩
end Go.Sh
