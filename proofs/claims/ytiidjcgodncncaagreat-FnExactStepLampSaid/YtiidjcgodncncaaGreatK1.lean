/- StepLamp. -/
import Derived.Test.YtiidjcgodncncaaGreatK0
set_option linter.all false
namespace Go.Sh
open Go.Fx
theorem frzss_map {σ : Type} {e e' : σ → List AV} (h : ∀ x, frzs (e x) = e' x) : ∀ l : List σ, frzss (l.map e) = l.map e'
  | [] => rfl
  | x :: l => by simp only [List.map_cons, frzss, h, frzss_map h l]
@[simp] theorem frzss_i (l : List Int) : frzss (l.map iR.enc) = l.map iR.enc := frzss_map (fun _ => rfl) l
@[simp] theorem frzss_path (l : List Path) : frzss (l.map pathR.enc) = l.map pathR.enc := frzss_map (fun _ => rfl) l
@[simp] theorem frzss_want (l : List Want) : frzss (l.map wantR.enc) = l.map wantR.enc := frzss_map (fun _ => rfl) l
@[simp] theorem frzss_lamp (l : List Lamp) : frzss (l.map lampR.enc) = l.map lampR.enc := frzss_map (fun _ => rfl) l
@[simp] theorem frzss_note (l : List Note) : frzss (l.map (noteR Own.unq).enc) = l.map (noteR Own.own).enc := frzss_map (fun x => by show frzs [I x.second, .slc Own.unq 1 (x.lights.map iR.enc), I x.sig] = [I x.second, .slc Own.own 1 (x.lights.map iR.enc), I x.sig]; simp [frzs, AV.frz]) l
@[simp] theorem appe_lamp (l : List Lamp) (a b : Int) (c : Bool) {β : Type} (K : List Lamp → Option β) : rws lampR (l.map lampR.enc ++ [[I a, I b, Bl c]]) K = K (l ++ [(⟨a, b, c⟩ : Lamp)]) :=
  (rws_app _ _ _ K).trans (rws_lamp l _)
theorem map_set' {σ τ : Type} (f : σ → τ) (l : List σ) (i : Nat) (x : σ) : (l.map f).set i (f x) = (l.set i x).map f := List.map_set.symm
@[simp] theorem rws_lset (l : List Lamp) (i : Nat) (a b : Int) (c : Bool) {β : Type} (K : List Lamp → Option β) : rws lampR ((l.map lampR.enc).set i [I a, I b, Bl c]) K = K (l.set i ⟨a, b, c⟩) := by
  have : (l.map lampR.enc).set i [I a, I b, Bl c] = (l.set i ⟨a, b, c⟩).map lampR.enc := map_set' lampR.enc l i ⟨a, b, c⟩
  exact (congrArg (fun z => rws lampR z K) this).trans (rws_lamp _ K)
def hit (p c : Int) (x : Lamp) : Bool := x.path == p && x.colour == c
def putLamp (p c : Int) (b : Bool) (x : Lamp) : Lamp := if hit p c x = true then ⟨x.path, x.colour, b⟩ else x
def lampsOf (l : List Lamp) (p c : Int) (b : Bool) : List Lamp := if l.any (hit p c) = true then l.map (putLamp p c b) else l.map (putLamp p c b) ++ [⟨p, c, b⟩]
theorem lamps_loop {β V : Type} (l : List Lamp) (p c : Int) (b : Bool) (hl : l.length ≤ 1099511627776) (st : Nat → List Lamp → Bool → V) (K : List Lamp → Bool → Option β) {F : (V → Option β) → V → Option β} {v : V} (hv : v = st 0 l false)
    (h0 : ∀ rec ls f, ls.length = l.length → F rec (st l.length ls f) = K ls f)
    (h1 : ∀ rec k x (ls : List Lamp) f, ls[k]? = some x → k < l.length → ls.length = l.length → F rec (st k ls f) = if hit p c x = true then rec (st (k + 1) (ls.set k (putLamp p c b x)) true) else rec (st (k + 1) ls f)) :
    iter F NN v = K (l.map (putLamp p c b)) (l.any (hit p c)) := by
  refine (iter_listJ l (by omega) (fun k (a : List Lamp × Bool) => st k a.1 a.2) (l, false) (fun k a => a.1 = (l.take k).map (putLamp p c b) ++ l.drop k ∧ a.2 = (l.take k).any (hit p c)) ⟨by simp, by simp⟩ (fun _ _ _ => K (l.map (putLamp p c b)) (l.any (hit p c))) hv ?_ ?_)
  · intro rec a ⟨e1, e2⟩
    rw [h0 rec a.1 a.2 (by rw [e1]; simp), e1, e2]
    simp
  · intro rec k x a ⟨e1, e2⟩ hx hk hrec
    have hlen : a.1.length = l.length := by rw [e1]; simp; omega
    have hat : a.1[k]? = some x := by
      rw [e1, List.getElem?_append_right (by simp; omega)]
      simp only [List.length_map, List.length_take, List.getElem?_drop]
      rw [show k + (k - min k l.length) = k by omega]
      exact hx
    have hmin : min k l.length = k := by omega
    have htk : l.take (k + 1) = l.take k ++ [x] := by
      rw [List.take_add_one, hx]; rfl
    have hdr : l.drop k = x :: l.drop (k + 1) := by
      rw [List.drop_eq_getElem_cons hk]
      congr 1
      exact (List.getElem?_eq_some_iff.1 hx).2
    rw [h1 rec k x a.1 a.2 hat hk hlen]
    split
    · rename_i hh
      refine hrec (_, _) ⟨?_, ?_⟩
      · show a.1.set k _ = _
        rw [e1, htk, hdr, List.set_append_right _ _ (by simp; omega)]
        simp only [List.length_map, List.length_take, hmin, Nat.sub_self, List.set_cons_zero, List.map_append, List.map_cons, List.map_nil, List.append_assoc, List.cons_append, List.nil_append]
      · show true = _
        rw [htk]; simp [hh]
    · rename_i hh
      have hh' : hit p c x = false := by simpa using hh
      refine hrec (_, _) ⟨?_, ?_⟩
      · show a.1 = _
        rw [e1, htk, hdr]
        simp [putLamp, hh']
      · show a.2 = _
        rw [htk, e2]; simp [hh']
def lamped (t : Town) (p c : Int) (b : Bool) : Town := { t with lamps := lampsOf t.lamps p c b }
def stepLamp (t : Town) (p c : Int) (b : Bool) : Town × Bool := if isTown t then stepped t (note (lamped t p c b)) true else (t, false)
theorem lampsOf_len (l : List Lamp) (p c : Int) (b : Bool) : (lampsOf l p c b).length ≤ l.length + 1 := by
  unfold lampsOf; split <;> simp
theorem lamped_sm {t : Town} (ht : isTown t = true) (h : SmTown t) (p c : Int) (b : Bool) : SmTown (lamped t p c b) := by
  obtain ⟨h0, h1, h2, h3, h4⟩ := h
  have := lampsOf_len t.lamps p c b
  have := town_lamps ht
  exact ⟨h0, h1, h2, by show (lampsOf _ _ _ _).length ≤ _; omega, h4⟩
theorem sStepLamp_v (t : Town) (p c : Int) (b : Bool) (h : SmTown t) : S_sStepLamp t p c b = some (stepLamp t p c b) := by
  unfold S_sStepLamp stepLamp
  simp only [rws_path, rws_i, rws_want, rws_lamp, rws_note_ss, rws_note_so, rws_note_oo, rws_note_uu, eta_Control, eta_Town, sl33Copy_v t h, sIsTown_v t h, bnd_some]
  cases ht : isTown t with
  | false => simp
  | true =>
    have hl := town_lamps ht
    have h' := lamped_sm ht h p c b
    have e := sNote_vT (u := lamped t p c b) ht rfl rfl h'
    have hn := note_smT (u := lamped t p c b) ht rfl h'
    have hd := sl34Done_v t _ true h hn
    simp only [Bool.not_true, cnd_no, AV.okU, okUs, okUss_path, okUss_i, okUss_want, okUss_lamp, okUss_note, Bool.and_self, ifA_t, toUss_path, toUss_i, toUss_want, toUss_lamp, toUss_note, rws_path, rws_i, rws_want, rws_lamp, rws_note_uu, eta_Control, eta_Town]
    refine (lamps_loop t.lamps p c b (by omega) (fun k ls f => ((p, c, b, f, (k : Int)), (t, (⟨[], ⟨[], 0, [], 0⟩, [], ⟨0, 0⟩, [], false, [], 0, 0⟩ : Town), { t with lamps := ls }))) (fun ls f => (bnd (S_sl34Note { t with lamps := if f = true then ls else ls ++ [⟨p, c, b⟩] }) fun r => bnd (S_sl34Done t r true) fun r27 => some (r27.1, r27.2))) rfl ?_ ?_).trans ?_
    · intro rec ls f hlen
      cases f with
      | false =>
        simp [hlen, eta_Control]
        rw [ifA_pos (by omega)]
      | true => simp [hlen, eta_Control]
    · intro rec k x ls f hx hk hlen
      have hk' : k < ls.length := by omega
      unfold hit putLamp hit
      cases hp : x.path == p <;> cases hc : x.colour == c <;> simp [hk, hk', getZ_at hx, getN_at hx, hp, hc, eta_Control, eta_Town, W_n1 (show k ≤ 9223372036854775806 by omega)]
    · have : (if t.lamps.any (hit p c) = true then t.lamps.map (putLamp p c b) else t.lamps.map (putLamp p c b) ++ [⟨p, c, b⟩]) = lampsOf t.lamps p c b := rfl
      rw [this]
      show (bnd (S_sl34Note (lamped t p c b)) fun r => bnd (S_sl34Done t r true) fun r27 => some (r27.1, r27.2)) = _
      rw [e, bnd_some, hd, bnd_some]
      rfl
theorem iStepLamp_v (t : Town) (p c : Int) (b : Bool) (h : SmTown t) : S_iStepLamp t p c b = some (stepLamp t p c b) := by
  unfold S_iStepLamp stepLamp
  simp only [rws_path, rws_i, rws_want, rws_lamp, rws_note_ss, rws_note_so, rws_note_oo, rws_note_uu, eta_Control, eta_Town, icloneTown_v t h, iIsTown_v t h, bnd_some]
  cases ht : isTown t with
  | false => simp
  | true =>
    have hl := town_lamps ht
    have h' := lamped_sm ht h p c b
    have e := iNote_vT (u := lamped t p c b) ht rfl rfl h'
    have hn := note_smT (u := lamped t p c b) ht rfl h'
    have hd := istepped_v t _ true h hn
    simp only [Bool.not_true, cnd_no, AV.okU, okUs, okUss_path, okUss_i, okUss_want, okUss_lamp, okUss_note, Bool.and_self, ifA_t, toUss_path, toUss_i, toUss_want, toUss_lamp, toUss_note, rws_path, rws_i, rws_want, rws_lamp, rws_note_uu, borss_lamp, len_lamp, eta_Control, eta_Town]
    refine (lamps_loop t.lamps p c b (by omega) (fun k ls f => ((p, c, b, f, (t.lamps.length : Int), (k : Int)), (t, (⟨[], ⟨[], 0, [], 0⟩, [], ⟨0, 0⟩, [], false, [], 0, 0⟩ : Town), { t with lamps := ls }))) (fun ls f => (bnd (S_inoted { t with lamps := if f = true then ls else ls ++ [⟨p, c, b⟩] }) fun r => bnd (S_istepped t r true) fun r27 => some (r27.1, r27.2))) rfl ?_ ?_).trans ?_
    · intro rec ls f hlen
      cases f with
      | false =>
        simp [hlen, eta_Control]
        rw [ifA_pos (by omega)]
      | true => simp [hlen, eta_Control]
    · intro rec k x ls f hx hk hlen
      have hk' : k < ls.length := by omega
      unfold hit putLamp hit
      cases hp : x.path == p <;> cases hc : x.colour == c <;> simp [hk, hk', getZ_at hx, getN_at hx, hp, hc, eta_Control, eta_Town, W_n1 (show k ≤ 9223372036854775806 by omega)]
    · have : (if t.lamps.any (hit p c) = true then t.lamps.map (putLamp p c b) else t.lamps.map (putLamp p c b) ++ [⟨p, c, b⟩]) = lampsOf t.lamps p c b := rfl
      rw [this]
      show (bnd (S_inoted (lamped t p c b)) fun r => bnd (S_istepped t r true) fun r27 => some (r27.1, r27.2)) = _
      rw [e, bnd_some, hd, bnd_some]
      rfl
theorem stepLamp_sm {t : Town} (h : SmTown t) (p c : Int) (b : Bool) : SmTown (stepLamp t p c b).1 := by
  unfold stepLamp
  split
  · rename_i hc
    exact stepped_sm h (note_smT (t := t) hc rfl (lamped_sm hc h p c b))
  · exact h
theorem lFnExactStepLamp_v (x : Town × Int × Int × Bool) (h : OkTown x.1 ∧ Rg x.2.1 ∧ Rg x.2.2.1 ∧ True) : S_lFnExactStepLamp x.1 x.2.1 x.2.2.1 x.2.2.2 = some true := by
  obtain ⟨t, p, c, b⟩ := x
  obtain ⟨r, e, d⟩ := lszTown_v t h.1 1048576 (by decide) (by decide)
  unfold S_lFnExactStepLamp
  simp only [rws_path, rws_i, rws_want, rws_lamp, rws_note_ss, rws_note_so, rws_note_oo, eta_Control, eta_Town]
  rcases d with d | ⟨_, _, hs⟩
  · simp [e, d]
  · have hg := stepLamp_sm hs p c b
    obtain ⟨n0, b0, c0, d0, f0, e0⟩ := lmarkTown_m t hs 1 (by omega) (by omega)
    obtain ⟨n1, b1, c1, d1, f1, e1⟩ := lmarkTown_m _ hg 1 (by omega) (by omega)
    have e2 := lheldTown_h b1 1 n1 (by omega) (by omega) f1
    simp (disch := omega) [e, show ¬ r < 0 by omega, ltoTown_v t hs, sStepLamp_v t p c b hs, iStepLamp_v t p c b hs, leqTown_v _ _ hg, leqTown_v _ _ hs, e0, e1, e2, cnd_no, ifA_t, AV.okU, okUs, eta_Control, eta_Town]
end Go.Sh
