/- FnSteps: what is drawn, and the law. -/
import Derived.Test.YtiidjcgodncncaaGreatN1
set_option linter.all false
namespace Go.Sh
open Go.Fx
theorem lbig_v (c : List Int) : S_lbig c = some (decide ((c.length : Int) > 1048576)) := by
  unfold S_lbig
  simp only [len_y]
theorem sDrawStepCall_g (code : List Int) (h : code.length ≤ 1048576) : ∃ t p, S_sDrawStepCall code = some (t, p) ∧ SmTown t := by
  unfold S_sDrawStepCall
  simp only [rC_v, rT_ss, rT_so, rT_oo, rT_uu, rws_y, eta_L1Cur]
  obtain ⟨g, e, hg⟩ := sl1New_g code h
  rw [e, bnd_some]
  obtain ⟨t, g1, e1, ht, hg1⟩ := sl34Draw_g hg
  rw [e1, bnd_some]
  obtain ⟨p, g2, e2, _, hg2⟩ := sl1Below_g hg1 (n := 9) (by omega)
  rw [e2, bnd_some]
  exact ⟨_, _, rfl, ht⟩
theorem sDrawStepLamp_g (code : List Int) (h : code.length ≤ 1048576) : ∃ t p k b, S_sDrawStepLamp code = some (t, p, k, b) ∧ SmTown t := by
  unfold S_sDrawStepLamp
  simp only [rC_v, rT_ss, rT_so, rT_oo, rT_uu, rws_y, eta_L1Cur]
  obtain ⟨t, p, e0, ht⟩ := sDrawStepCall_g code h
  rw [e0, bnd_some]
  obtain ⟨g, e, hg⟩ := sl1New_g code h
  rw [e, bnd_some]
  obtain ⟨k, g2, e2, _, hg2⟩ := sl1Below_g hg (n := 4) (by omega)
  rw [e2, bnd_some]
  obtain ⟨b, g3, e3, _, hg3⟩ := sl1Once_g hg2 (n := 2) (by omega)
  rw [e3, bnd_some]
  exact ⟨_, _, _, _, rfl, ht⟩
theorem sDrawStepPower_g (code : List Int) (h : code.length ≤ 1048576) : ∃ t b, S_sDrawStepPower code = some (t, b) ∧ SmTown t := by
  unfold S_sDrawStepPower
  simp only [rC_v, rT_ss, rT_so, rT_oo, rT_uu, rws_y, eta_L1Cur]
  obtain ⟨g, e, hg⟩ := sl1New_g code h
  rw [e, bnd_some]
  obtain ⟨t, g1, e1, ht, hg1⟩ := sl34Draw_g hg
  rw [e1, bnd_some]
  obtain ⟨p, g2, e2, _, hg2⟩ := sl1Once_g hg1 (n := 3) (by omega)
  rw [e2, bnd_some]
  exact ⟨_, _, rfl, ht⟩
theorem sDrawStepSecond_g (code : List Int) (h : code.length ≤ 1048576) : ∃ t, S_sDrawStepSecond code = some t ∧ SmTown t := by
  unfold S_sDrawStepSecond
  simp only [rC_v, rT_ss, rT_so, rT_oo, rT_uu, rws_y, eta_L1Cur, rws_path, rws_want, rws_lamp, rws_note_oo]
  obtain ⟨g, e, hg⟩ := sl1New_g code h
  rw [e, bnd_some]
  obtain ⟨t, g1, e1, ht, hg1⟩ := sl34Draw_g hg
  rw [e1, bnd_some]
  obtain ⟨p, g2, e2, _, hg2⟩ := sl1Once_g hg1 (n := 9) (by omega)
  rw [e2, bnd_some]
  cases p with
  | true => exact ⟨_, rfl, ht⟩
  | false => exact ⟨_, rfl, ht⟩
theorem sDrawStepSeconds_g (code : List Int) (h : code.length ≤ 1048576) : ∃ t n, S_sDrawStepSeconds code = some (t, n) ∧ SmTown t := by
  unfold S_sDrawStepSeconds
  simp only [rC_v, rT_ss, rT_so, rT_oo, rT_uu, rws_y, eta_L1Cur]
  obtain ⟨g, e, hg⟩ := sl1New_g code h
  rw [e, bnd_some]
  obtain ⟨t, g1, e1, ht, hg1⟩ := sl34Draw_g hg
  rw [e1, bnd_some]
  obtain ⟨p, g2, e2, _, hg2⟩ := sl1Int_g hg1 (l := [1, 5, 30, 100, 101, 0]) (by simp) (by simp) (P := fun _ => True) (fun _ _ => trivial)
  rw [e2, bnd_some]
  exact ⟨_, _, rfl, ht⟩
theorem joinA_at {V β : Type} {F : V → Option β} {B : (V → Option β) → Option β} (v : V) (h : ∀ J, B J = J v) : joinA F B = F v := h F
theorem segT {β : Type} {c : Bool} {e : Option Bool} {X Y Z : Option β} (h : c = true → e = some true) (hY : c = true → Y = Z) : cnd c (bnd e fun r => cnd (!r) X Y) Z = Z := by
  cases c with
  | false => rfl
  | true => rw [cnd_tt, h rfl, bnd_some]; exact hY rfl
theorem segB {β : Type} {c : Bool} {e e' : Option Bool} {X Z : Option β} {F : Bool → Option β} (h : c = true → e = some true) (h' : c = true → ∃ r, e' = some r ∧ F r = Z) : cnd c (bnd e fun r => cnd (!r) X (bnd e' F)) Z = Z := by
  cases c with
  | false => rfl
  | true => obtain ⟨r, h1, h2⟩ := h' rfl; rw [cnd_tt, h rfl, bnd_some, h1, bnd_some]; exact h2
theorem segE {β : Type} {c : Bool} {e : Option Bool} {F : Bool → Option β} {Z : Option β} (h : c = false → e = some true) (hF : F true = Z) : cnd c Z (bnd e F) = Z := by
  cases c with
  | true => rfl
  | false => rw [cnd_ff, h rfl, bnd_some]; exact hF
theorem same_town {a : Town} (h : SmTown a) {b : Town} (e : b = a) : S_iEqualTowns a b = some true := by
  rw [iEqualTowns_v a b h, e]; simp
theorem is_town {a : Town} (h : SmTown a) (e : isTown a = true) : S_iIsTown a = some true := by rw [iIsTown_v a h, e]
theorem lFnSteps_v (code : List Int) (h : code.length ≤ maxLen ∧ ∀ y ∈ code, 0 ≤ y ∧ y ≤ 255) : S_lFnSteps code = some true := by
  unfold S_lFnSteps
  simp only [rws_y, lbig_v, bnd_some]
  by_cases hb : (code.length : Int) > 1048576
  · rw [show decide ((code.length : Int) > 1048576) = true by simpa using hb, cnd_tt]
  rw [show decide ((code.length : Int) > 1048576) = false by simpa using hb, cnd_ff]
  obtain ⟨a, p, e1, ha⟩ := sDrawStepCall_g code (by omega)
  obtain ⟨d, q, k, lb, e2, hd⟩ := sDrawStepLamp_g code (by omega)
  obtain ⟨f, on, e3, hf⟩ := sDrawStepPower_g code (by omega)
  obtain ⟨u, e4, hu⟩ := sDrawStepSecond_g code (by omega)
  obtain ⟨v, n, e5, hv⟩ := sDrawStepSeconds_g code (by omega)
  simp only [rC_v, rT_ss, rT_so, rT_oo, rT_uu, rws_lamp, len_want, e1, e2, e3, e4, e5, bnd_some, iStepCall_v a p ha, iStepBus_v a p ha, iStepLamp_v d q k lb hd, iStepPower_v f on hf, iStepSecond_v u hu, iStepHelp_v a p ha, iStepSeconds_v v n hv]
  have t1 := fun hc : (stepCall a p).2 = true => is_town (stepCall_sm ha p) (stepCall_t hc).1
  have t2 := fun hc : (stepBus a p).2 = true => is_town (stepBus_sm ha p) (stepBus_t hc).1
  have t3 := fun hc : (stepLamp d q k lb).2 = true => is_town (stepLamp_sm hd q k lb) (stepLamp_t hc).1
  have t4 := fun hc : (stepPower f on).2 = true => is_town (stepPower_sm hf on) (stepPower_t hc).1
  have t5 := fun hc : (stepSecond u).2 = true => is_town (stepSecond_sm hu) (stepSecond_t hc).2.1
  have t6 := fun hc : (stepHelp a p).2 = true => is_town (stepHelp_sm ha p) (stepHelp_t hc).2.1
  have t7 := fun hc : (stepSeconds v n).2 = true => is_town (stepSeconds_sm hv n) (stepSeconds_t hc).2.1
  have q1 : (stepCall a p).2 = true → (((stepCall a p).1.wants.length : Int) != W ((a.wants.length : Int) + 1)) = false := fun hc => by
    have hw := ha.2.2.1
    unfold Sm at hw
    rw [(stepCall_t hc).2, W_n1 (show a.wants.length ≤ 9223372036854775806 by omega)]; simp
  have q2 : (stepBus a p).2 = true → ((stepBus a p).1.prio.path != p) = false := fun hc => by rw [(stepBus_t hc).2]; simp
  have q3 : (stepLamp d q k lb).2 = true → S_iIsBroken (stepLamp d q k lb).1.lamps q k = some lb := fun hc => by
    rw [iIsBroken_v _ _ _ (stepLamp_sm hd q k lb).2.2.2.1, (stepLamp_t hc).2]
  have q4 : (stepPower f on).2 = true → ((stepPower f on).1.power != on) = false := fun hc => by rw [(stepPower_t hc).2]; simp
  have q5 : (stepSecond u).2 = true → ((stepSecond u).1.now != W (u.now + 1)) = false := fun hc => by
    have := town_now (stepSecond_t hc).1
    rw [(stepSecond_t hc).2.2, W_id (by omega) (by omega)]; simp
  have q6 : (stepHelp a p).2 = true → ((stepHelp a p).1.now != W (a.now + 1)) = false := fun hc => by
    have := town_now (stepHelp_t hc).1
    rw [(stepHelp_t hc).2.2, W_id (by omega) (by omega)]; simp
  have q7 : (stepSeconds v n).2 = true → ((stepSeconds v n).1.now != W (v.now + n)) = false := fun hc => by
    have h1 := stepSeconds_t hc
    have := town_now h1.1
    rw [h1.2.2.1, W_id (by omega) (by omega)]; simp
  have s1 := fun hc : (stepCall a p).2 = false => same_town ha (stepCall_f hc)
  have s2 := fun hc : (stepBus a p).2 = false => same_town ha (stepBus_f hc)
  have s3 := fun hc : (stepLamp d q k lb).2 = false => same_town hd (stepLamp_f hc)
  have s4 := fun hc : (stepPower f on).2 = false => same_town hf (stepPower_f hc)
  have s5 := fun hc : (stepSecond u).2 = false => same_town hu (stepSecond_f hc)
  have s6 := fun hc : (stepHelp a p).2 = false => same_town ha (stepHelp_f hc)
  have s7 := fun hc : (stepSeconds v n).2 = false => same_town hv (stepSeconds_f hc)
  generalize stepCall a p = b1 at *
  generalize stepBus a p = b2 at *
  generalize stepLamp d q k lb = b3 at *
  generalize stepPower f on = b4 at *
  generalize stepSecond u = b5 at *
  generalize stepHelp a p = b6 at *
  generalize stepSeconds v n = b7 at *
  refine (joinA_at _ fun J => rfl).trans ?_
  unfold S_j14
  simp only [rT_ss, rT_so, rT_oo, rws_lamp, len_want, cnd_ff, cnd_tt]
  refine (joinA_at _ fun J => segT t1 fun hc => by rw [q1 hc]).trans ?_
  unfold S_j15
  simp only [rT_ss, rT_so, rT_oo, rws_lamp, len_want, cnd_ff, cnd_tt]
  refine (joinA_at _ fun J => segT t2 fun hc => by rw [q2 hc]).trans ?_
  unfold S_j16
  simp only [rT_ss, rT_so, rT_oo, rws_lamp, len_want, cnd_ff, cnd_tt]
  refine (joinA_at _ fun J => segB t3 fun hc => ⟨_, q3 hc, by simp only [bne_self_eq_false]⟩).trans ?_
  unfold S_j17
  simp only [rT_ss, rT_so, rT_oo, rws_lamp, len_want, cnd_ff, cnd_tt]
  refine (joinA_at _ fun J => segT t4 fun hc => by rw [q4 hc]).trans ?_
  unfold S_j18
  simp only [rT_ss, rT_so, rT_oo, rws_lamp, len_want, cnd_ff, cnd_tt]
  refine (joinA_at _ fun J => segT t5 fun hc => by rw [q5 hc]).trans ?_
  unfold S_j19
  simp only [rT_ss, rT_so, rT_oo, rws_lamp, len_want, cnd_ff, cnd_tt]
  refine (joinA_at _ fun J => segT t6 fun hc => by rw [q6 hc]).trans ?_
  unfold S_j20
  simp only [rT_ss, rT_so, rT_oo, rws_lamp, len_want, cnd_ff, cnd_tt]
  refine (joinA_at _ fun J => segT t7 fun hc => by rw [q7 hc]).trans ?_
  unfold S_j21
  simp only [rT_ss, rT_so, rT_oo, rws_lamp, len_want, cnd_ff, cnd_tt]
  refine (joinA_at _ fun J => rfl).trans ?_
  unfold S_j22
  simp only [rT_ss, rT_so, rT_oo, rws_lamp, len_want, cnd_ff, cnd_tt]
  refine (joinA_at _ fun J => segE s1 (by rfl)).trans ?_
  unfold S_j23
  simp only [rT_ss, rT_so, rT_oo, rws_lamp, len_want, cnd_ff, cnd_tt]
  refine (joinA_at _ fun J => segE s2 (by rfl)).trans ?_
  unfold S_j24
  simp only [rT_ss, rT_so, rT_oo, rws_lamp, len_want, cnd_ff, cnd_tt]
  refine (joinA_at _ fun J => segE s3 (by rfl)).trans ?_
  unfold S_j25
  simp only [rT_ss, rT_so, rT_oo, rws_lamp, len_want, cnd_ff, cnd_tt]
  refine (joinA_at _ fun J => segE s4 (by rfl)).trans ?_
  unfold S_j26
  simp only [rT_ss, rT_so, rT_oo, rws_lamp, len_want, cnd_ff, cnd_tt]
  refine (joinA_at _ fun J => segE s5 (by rfl)).trans ?_
  unfold S_j27
  simp only [rT_ss, rT_so, rT_oo, rws_lamp, len_want, cnd_ff, cnd_tt]
  refine (joinA_at _ fun J => segE s6 (by rfl)).trans ?_
  unfold S_j28
  simp only [rT_ss, rT_so, rT_oo, rws_lamp, len_want, cnd_ff, cnd_tt]
  exact (joinA_at _ fun J => segE s7 (by rfl)).trans rfl
end Go.Sh
