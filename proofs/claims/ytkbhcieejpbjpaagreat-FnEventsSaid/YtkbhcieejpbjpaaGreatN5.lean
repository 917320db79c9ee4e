/- FnEvents: what is drawn. -/
import Derived.Test.YtkbhcieejpbjpaaGreatN4
set_option linter.all false
namespace Go.Sh
open Go.Fx
theorem lbig_v (c : List Int) : S_lbig c = some (decide ((c.length : Int) > 1048576)) := by
  unfold S_lbig
  simp only [len_y]
theorem sl5Draw_u_g {g : L1Cur} (h : CurOk g) : Gives (S_sl5Draw_u g) fun l => Drawn l ∧ 2 ≤ l.length := by
  have e : S_sl5Draw_u g = S_sl5Draw g := rfl
  rw [e]; exact sl5Draw_g h
theorem sl35Start_g {g : L1Cur} (h : CurOk g) : Gives (S_sl35Start g) SmTown := by
  unfold S_sl35Start
  simp only [rC_v, rT_ss, rT_so, rT_oo, rT_uu, rws_y, rws_path, eta_L1Cur]
  obtain ⟨l, g1, e1, hl, hg1⟩ := sl5Draw_g h
  rw [e1, bnd_some]
  simp only [sNewTown_v l (drawn_sm hl.1), bnd_some]
  exact ⟨_, _, rfl, newTown_sm (drawn_sm hl.1), hg1⟩
theorem sl35One_g {g : L1Cur} (h : CurOk g) : Gives (S_sl35One g) fun _ => True := by
  unfold S_sl35One
  simp only [rws_y, eta_L1Cur]
  obtain ⟨k, g1, e1, _, hg1⟩ := sl1Int_g h (l := [1, 1, 1, 2, 3, 4, 5, 5, 5, 6]) (by simp) (by simp) (P := fun _ => True) (fun _ _ => trivial)
  rw [e1, bnd_some]
  obtain ⟨p, g2, e2, _, hg2⟩ := sl1Below_g hg1 (n := 7) (by omega)
  rw [e2, bnd_some]
  obtain ⟨a, g3, e3, _, hg3⟩ := sl1Below_g hg2 (n := 2) (by omega)
  obtain ⟨b, g4, e4, _, hg4⟩ := sl1Once_g hg3 (n := 2) (by omega)
  obtain ⟨c, g5, e5, _, hg5⟩ := sl1Once_g hg2 (n := 3) (by omega)
  obtain ⟨d, g6, e6, _, hg6⟩ := sl1Below_g hg2 (n := 12) (by omega)
  simp only [e3, e4, e5, e6, bnd_some, cnd_if]
  split
  · exact ⟨_, _, rfl, trivial, hg4⟩
  split
  · exact ⟨_, _, rfl, trivial, hg5⟩
  split
  · exact ⟨_, _, rfl, trivial, hg6⟩
  · exact ⟨_, _, rfl, trivial, hg2⟩
theorem appe_evt1 (l : List Evt) (e : Evt) {β : Type} (K : List Evt → Option β) : rws evtR (l.map evtR.enc ++ [[I e.kind, I e.path, I e.n, Bl e.on]]) K = K (l ++ [e]) := by rw [appe_evt, rws_evt]
theorem sl35List_g {g : L1Cur} (h : CurOk g) {m : Int} (hm : 1 ≤ m ∧ m ≤ 256) : Gives (S_sl35List m g) fun l => ∃ r, l = ⟨5, 0, 6, false⟩ :: r ∧ r.length ≤ 256 := by
  unfold S_sl35List
  simp only [rws_y, rws_evt, eta_L1Cur]
  obtain ⟨n, g1, e1, hn, hg1⟩ := sl1Below_g h (n := m) hm.2
  rw [e1, bnd_some]
  have hn1 := hn.2.1 hm.1
  rw [gives_iff]
  refine iter_ex (fun v => v.1.2.2.toNat) (fun v => 0 ≤ v.1.2.2 ∧ (∃ r, v.1.2.1 = ⟨5, 0, 6, false⟩ :: r ∧ (r.length : Int) + v.1.2.2 ≤ 256) ∧ CurOk v.2) ?_ NN _ ⟨hn.1, ⟨[], rfl, by show (0 : Int) + n ≤ 256; omega⟩, hg1⟩ (NN_big (by show n.toNat ≤ _; omega))
  rintro rec ⟨⟨u, l, i⟩, g⟩ ⟨hi, ⟨r, hl, hr⟩, hg⟩ hrec
  simp only at hi hl hr hg hrec ⊢
  by_cases c : i > 0
  · rw [show decide (i > 0) = true by simpa using c, cnd_tt]
    obtain ⟨e, g2, e2, _, hg2⟩ := sl35One_g hg
    rw [e2, bnd_some]
    have hlen : l.length = r.length + 1 := by rw [hl]; rfl
    simp only [List.length_cons, List.length_nil, len_evt]
    rw [ifA_pos (by omega)]
    simp only [appe_evt1]
    refine hrec (((), (l ++ [e], W (i - 1))), g2) ⟨?_, ⟨r ++ [e], by rw [hl]; rfl, ?_⟩, hg2⟩ ?_
    · show 0 ≤ W (i - 1)
      rw [W_id (by omega) (by omega)]; omega
    · show ((r ++ [e]).length : Int) + W (i - 1) ≤ 256
      rw [W_id (by omega) (by omega)]; simp; omega
    · show (W (i - 1)).toNat < i.toNat
      rw [W_id (by omega) (by omega)]; omega
  · rw [show decide (i > 0) = false by simpa using c, cnd_ff]
    exact ⟨_, rfl, ⟨r, hl, by omega⟩, hg⟩
theorem sDrawRunEvents_g (code : List Int) (h : code.length ≤ 1048576) : ∃ t r, S_sDrawRunEvents code = some (t, ⟨5, 0, 6, false⟩ :: r) ∧ SmTown t ∧ r.length ≤ 256 := by
  unfold S_sDrawRunEvents
  simp only [rC_v, rT_ss, rT_so, rT_oo, rT_uu, rws_y, rws_evt, eta_L1Cur]
  obtain ⟨g, e, hg⟩ := sl1New_g code h
  rw [e, bnd_some]
  obtain ⟨t, g1, e1, ht, hg1⟩ := sl35Start_g hg
  rw [e1, bnd_some]
  obtain ⟨l, g2, e2, ⟨r, hl, hr⟩, hg2⟩ := sl35List_g hg1 (m := 12) (by omega)
  rw [e2, bnd_some]
  subst hl
  exact ⟨_, _, rfl, ht, hr⟩
theorem sDrawApplyEvent_g (code : List Int) (h : code.length ≤ 1048576) : ∃ t e, S_sDrawApplyEvent code = some (t, e) ∧ SmTown t := by
  unfold S_sDrawApplyEvent
  simp only [rC_v, rT_ss, rT_so, rT_oo, rT_uu, rws_y, eta_L1Cur]
  obtain ⟨g, e, hg⟩ := sl1New_g code h
  rw [e, bnd_some]
  obtain ⟨t, g1, e1, ht, hg1⟩ := sl34Draw_g hg
  rw [e1, bnd_some]
  obtain ⟨v, g2, e2, _, hg2⟩ := sl35One_g hg1
  rw [e2, bnd_some]
  obtain ⟨b, g3, e3, _, hg3⟩ := sl1Once_g hg2 (n := 9) (by omega)
  rw [e3, bnd_some]
  obtain ⟨k, g4, e4, _, hg4⟩ := sl1Below_g hg3 (n := 9) (by omega)
  cases b with
  | true => rw [cnd_tt, e4, bnd_some]; exact ⟨_, _, rfl, ht⟩
  | false => rw [cnd_ff]; exact ⟨_, _, rfl, ht⟩
end Go.Sh
