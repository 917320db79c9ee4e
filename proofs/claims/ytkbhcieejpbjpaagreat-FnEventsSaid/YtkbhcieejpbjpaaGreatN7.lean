/- FnEvents: the law. -/
import Derived.Test.YtkbhcieejpbjpaaGreatN6
set_option linter.all false
namespace Go.Sh
open Go.Fx
theorem same_town {a : Town} (h : SmTown a) {b : Town} (e : b = a) : S_iEqualTowns a b = some true := by
  rw [iEqualTowns_v a b h, e]; simp
theorem cut1 (l : List Evt) (n : Nat) {β : Type} (K : List Evt → Option β) : rws evtR (List.drop (Int.toNat 0) (List.take n (l.map evtR.enc))) K = K (l.take n) := by
  have e : List.drop (Int.toNat 0) (List.take n (l.map evtR.enc)) = (l.take n).map evtR.enc := by
    rw [Int.toNat_zero, List.drop_zero]; exact (List.map_take ..).symm
  rw [e, rws_evt]
theorem cut2 (l : List Evt) (n : Nat) {β : Type} (K : List Evt → Option β) : rws evtR (List.drop n (List.take (Int.toNat ((l.length : Nat) : Int)) (l.map evtR.enc))) K = K (l.drop n) := by
  have e : List.drop n (List.take (Int.toNat ((l.length : Nat) : Int)) (l.map evtR.enc)) = (l.drop n).map evtR.enc := by
    rw [Int.toNat_natCast, List.take_of_length_le (by rw [len_evt]; exact Nat.le_refl _)]; exact (List.map_drop ..).symm
  rw [e, rws_evt]
theorem last_v {a : Town} {ev : Evt} (ha : SmTown a) : (bnd (S_iApplyEvent a ev) fun r14 => cnd r14.2 (cnd (!r14.2) (some true) (bnd (S_iEventName ev.kind) fun r15 => some (!(ByteArray.toList r15 == ByteArray.toList (ByteArray.mk (List.toArray [])))))) (bnd (S_iEqualTowns a r14.1) fun r15 => cnd r15 (cnd (!r14.2) (some true) (bnd (S_iEventName ev.kind) fun r16 => some (!(ByteArray.toList r16 == ByteArray.toList (ByteArray.mk (List.toArray [])))))) (some false))) = some true := by
  rw [iApplyEvent_v a ev ha, bnd_some]
  cases h : (applyEvent a ev).2 with
  | true =>
    obtain ⟨b, e1, e2⟩ := name_v (apply_kind h)
    rw [cnd_tt, Bool.not_true, cnd_ff, e1, bnd_some, e2]; rfl
  | false => rw [cnd_ff, same_town ha (apply_same h), bnd_some, cnd_tt, Bool.not_false, cnd_tt]
theorem lFnEvents_v (code : List Int) (h : code.length ≤ maxLen ∧ ∀ y ∈ code, 0 ≤ y ∧ y ≤ 255) : S_lFnEvents code = some true := by
  unfold S_lFnEvents
  simp only [rws_y, lbig_v, bnd_some]
  by_cases hb : (code.length : Int) > 1048576
  · rw [show decide ((code.length : Int) > 1048576) = true by simpa using hb, cnd_tt]
  rw [show decide ((code.length : Int) > 1048576) = false by simpa using hb, cnd_ff]
  obtain ⟨t, r, e1, ht, hr⟩ := sDrawRunEvents_g code (by omega)
  obtain ⟨k, e2, hk⟩ := lat_v code h.2 (by omega)
  obtain ⟨p, e3, hp⟩ := sDrawCallAll_g code (by omega)
  obtain ⟨a, ev, e4, ha⟩ := sDrawApplyEvent_g code (by omega)
  have hL : ∃ l : List Evt, l = ⟨5, 0, 6, false⟩ :: r := ⟨_, rfl⟩
  obtain ⟨l, hl⟩ := hL
  rw [← hl] at e1
  have hlen : l.length = r.length + 1 := by rw [hl]; rfl
  have hsl : Sm l := by unfold Sm; omega
  have hcnt : 1 ≤ cnt (fun x : Evt => x.kind == 5) l := by
    rw [hl]; unfold cnt; simp
    try omega
  have hpos : (0 : Int) < (l.length : Int) := by omega
  have m0 : 0 ≤ Int.tmod k (l.length : Int) := Int.tmod_nonneg _ hk
  have m1 : Int.tmod k (l.length : Int) < (l.length : Int) := Int.tmod_lt_of_pos _ hpos
  have hst : Sm (l.take (Int.tmod k (l.length : Int)).toNat) := by unfold Sm at hsl ⊢; rw [List.length_take]; omega
  have hsd : Sm (l.drop (Int.tmod k (l.length : Int)).toNat) := by unfold Sm at hsl ⊢; rw [List.length_drop]; omega
  have hx := runEvents_sm (l := l) ht
  have h7 := runEvents_sm (l := l.take (Int.tmod k (l.length : Int)).toNat) ht
  simp only [rC_v, rT_ss, rT_so, rT_oo, rT_uu, rws_evt, rws_path, len_evt, len_path, len_want, e1, e2, e3, e4, bnd_some, cut1, cut2, iRunEvents_v t l ht hsl, iIsTown_v t ht, iIsTown_v _ hx, run_town]
  rw [ifA_pos (by omega)]
  simp only [bne_self_eq_false, cnd_ff]
  rw [ifA_pos (by omega), iRunEvents_v t _ ht hst, bnd_some, ifA_pos (by omega), iRunEvents_v _ _ h7 hsd, bnd_some, run_cut, iEqualTowns_v _ _ hx, bnd_some]
  simp only [decide_true, Bool.not_true, cnd_ff, iCountEvents_v _ _ hsl, bnd_some]
  rw [show decide (cnt (fun x : Evt => x.kind == 5) l < 1) = false by simpa using hcnt, cnd_ff, iNewTown_v p hp, bnd_some]
  have hlast := last_v (ev := ev) ha
  cases hn : (newTown p).2 with
  | true =>
    have hc : Sm (callAll p) := by unfold Sm at hp ⊢; unfold callAll; rw [List.length_map]; exact hp
    rw [cnd_tt, iCallAll_v p hp, bnd_some, iRunEvents_v _ _ (newTown_sm hp) hc, bnd_some, called_all p hn]
    simp only [bne_self_eq_false, cnd_ff]
    exact hlast
  | false => rw [cnd_ff]; exact hlast
end Go.Sh
