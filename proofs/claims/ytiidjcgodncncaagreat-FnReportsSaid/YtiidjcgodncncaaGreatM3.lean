/- Drawn towns. -/
import Derived.Test.YtiidjcgodncncaaGreatM2
set_option linter.all false
namespace Go.Sh
open Go.Fx
theorem drawn_sm {l : List Path} (h : Drawn l) : Sm l := by have := h.1; unfold Sm; omega
theorem newTown_paths (l : List Path) : (newTown l).1.paths.length ≤ l.length := by
  unfold newTown
  split
  · simp
  · split
    · exact Nat.le_refl _
    · simp
theorem sl33Draw_g {g : L1Cur} (h : CurOk g) : Gives (S_sl33Draw g) SmTown := by
  unfold S_sl33Draw
  simp only [rC_v, rT_ss, rT_so, rT_oo, rT_uu, rws_y, rws_path, rws_want, rws_lamp, rws_note_oo, eta_L1Cur]
  obtain ⟨l, g1, e1, hl, hg1⟩ := sl5Draw_g h
  rw [e1, bnd_some]
  have hs := drawn_sm hl.1
  simp only [sNewTown_v l hs, bnd_some]
  have hp := newTown_paths l
  have hl7 := hl.1.1
  obtain ⟨x, g2, e2, hx, hg2⟩ := sl19Lamps_g hg1 (l := (newTown l).1.paths) (by omega) (rare := 40) (by omega)
  rw [e2, bnd_some]
  obtain ⟨h0, h1, h2, h3, h4⟩ := newTown_sm hs
  exact ⟨_, _, rfl, ⟨h0, h1, h2, by show x.length ≤ _; omega, h4⟩, hg2⟩
theorem sl34Draw_g {g : L1Cur} (h : CurOk g) : Gives (S_sl34Draw g) SmTown := by
  unfold S_sl34Draw
  simp only [rC_v, rT_ss, rT_so, rT_oo, rT_uu, rws_y, eta_L1Cur]
  obtain ⟨t, g1, e1, ht, hg1⟩ := sl33Draw_g h
  rw [e1, bnd_some]
  obtain ⟨n, g2, e2, hn, hg2⟩ := sl1Below_g hg1 (n := 7) (by omega)
  rw [e2, bnd_some]
  have hn1 := hn.2.1 (by omega)
  rw [gives_iff]
  refine iter_ex (fun v => v.1.2.toNat) (fun v => v.1.2 ≤ 7 ∧ 0 ≤ v.1.2 ∧ SmTown v.2.1.2 ∧ CurOk v.2.2) ?_ NN _ ⟨by show n ≤ 7; omega, hn.1, ht, hg2⟩ (NN_big (by show n.toNat ≤ _; omega))
  rintro rec ⟨⟨u, i⟩, ⟨d, t⟩, g⟩ ⟨hi1, hi0, ht, hg⟩ hrec
  simp only at hi1 hi0 ht hg hrec ⊢
  by_cases c : i > 0
  · rw [show decide (i > 0) = true by simpa using c, cnd_tt]
    have fin : ∀ (t' : Town) (g' : L1Cur), SmTown t' → CurOk g' → ∃ b : Town × L1Cur, rec ((u, W (i - 1)), (d, t'), g') = some b ∧ SmTown b.1 ∧ CurOk b.2 := fun t' g' h1 h2 => by
      refine hrec _ ⟨?_, ?_, h1, h2⟩ ?_
      · show W (i - 1) ≤ 7
        rw [W_id (by omega) (by omega)]; omega
      · show 0 ≤ W (i - 1)
        rw [W_id (by omega) (by omega)]; omega
      · show (W (i - 1)).toNat < i.toNat
        rw [W_id (by omega) (by omega)]; omega
    obtain ⟨k, g3, e3, hk, hg3⟩ := sl1Below_g hg (n := 6) (by omega)
    rw [e3, bnd_some]
    obtain ⟨p, g4, e4, hp, hg4⟩ := sl1Below_g hg3 (n := 7) (by omega)
    obtain ⟨q, g5, e5, hq, hg5⟩ := sl1Below_g hg3 (n := 9) (by omega)
    simp only [e4, e5, bnd_some, sStepCall_v t _ ht, sStepBus_v t _ ht, sStepHelp_v t _ ht, sStepSeconds_v t _ ht, cnd_if]
    split
    · exact fin _ _ (stepCall_sm ht _) hg4
    split
    · exact fin _ _ (stepCall_sm ht _) hg4
    split
    · exact fin _ _ (stepBus_sm ht _) hg4
    split
    · exact fin _ _ (stepHelp_sm ht _) hg4
    · exact fin _ _ (stepSeconds_sm ht _) hg5
  · rw [show decide (i > 0) = false by simpa using c, cnd_ff]
    exact ⟨_, rfl, ht, hg⟩
theorem sDrawReportOf_g (code : List Int) (h : code.length ≤ 1048576) : ∃ t p s, S_sDrawReportOf code = some (t, p, s) ∧ SmTown t := by
  unfold S_sDrawReportOf
  simp only [rC_v, rT_ss, rT_so, rT_oo, rT_uu, rws_y, eta_L1Cur]
  obtain ⟨g, e, hg⟩ := sl1New_g code h
  rw [e, bnd_some]
  obtain ⟨t, g1, e1, ht, hg1⟩ := sl34Draw_g hg
  rw [e1, bnd_some]
  obtain ⟨p, g2, e2, _, hg2⟩ := sl1Below_g hg1 (n := 9) (by omega)
  rw [e2, bnd_some]
  obtain ⟨q, g3, e3, _, hg3⟩ := sl1Below_g hg2 (n := 30) (by omega)
  rw [e3, bnd_some]
  obtain ⟨s, g4, e4, _, hg4⟩ := sl1Int_g hg3 (l := [t.now, 0, W (t.now - 3), W (t.now + 1), q]) (by simp) (by simp) (P := fun _ => True) (fun _ _ => trivial)
  rw [e4, bnd_some]
  exact ⟨_, _, _, rfl, ht⟩
theorem sDrawVerdict_g (code : List Int) (h : code.length ≤ 1048576) : ∃ a b, S_sDrawVerdict code = some (a, b) := by
  unfold S_sDrawVerdict
  simp only [rws_y, eta_L1Cur]
  obtain ⟨g, e, hg⟩ := sl1New_g code h
  rw [e, bnd_some]
  obtain ⟨p, g2, e2, _, hg2⟩ := sl1Below_g hg (n := 2) (by omega)
  rw [e2, bnd_some]
  obtain ⟨q, g3, e3, _, hg3⟩ := sl1Below_g hg2 (n := 5) (by omega)
  rw [e3, bnd_some]
  obtain ⟨q, g3, e3, _, hg3⟩ := sl1Below_g hg3 (n := 4) (by omega)
  rw [e3, bnd_some]
  exact ⟨_, _, rfl⟩
end Go.Sh
