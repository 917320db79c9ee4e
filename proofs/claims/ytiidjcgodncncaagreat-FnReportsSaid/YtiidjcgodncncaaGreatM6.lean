/- FnReports: the law. -/
import Derived.Test.YtiidjcgodncncaaGreatM5
set_option linter.all false
namespace Go.Sh
open Go.Fx
theorem get_at' {α β : Type} {l : List α} {i : Int} {m : Nat} {x : α} (hi : i = (m : Int)) (h : l[m]? = some x) (K : α → Option β) : getZ l i K = K x := by rw [hi]; exact getZ_at h K
theorem lFnReports_v (code : List Int) (h : code.length ≤ maxLen ∧ ∀ y ∈ code, 0 ≤ y ∧ y ≤ 255) : S_lFnReports code = some true := by
  unfold S_lFnReports
  simp only [rws_y, lbig_v, bnd_some]
  by_cases hb : (code.length : Int) > 1048576
  · rw [show decide ((code.length : Int) > 1048576) = true by simpa using hb, cnd_tt]
  rw [show decide ((code.length : Int) > 1048576) = false by simpa using hb, cnd_ff]
  obtain ⟨t, p, s, e, ht⟩ := sDrawReportOf_g code (by omega)
  obtain ⟨a, b, e2⟩ := sDrawVerdict_g code (by omega)
  obtain ⟨v1, v2, v3⟩ := verdicts a b
  have hsm : Sm (reportAll t s) := by
    have := List.length_filterMap_le (fun p => if (report t p.id s).2 = true then some (report t p.id s).1 else none) t.paths
    have h0 := ht.1
    unfold Sm at h0 ⊢
    unfold reportAll
    omega
  have hlen := hsm
  unfold Sm at hlen
  have hgood : ∀ x ∈ reportAll t s, Good t s x := fun x hx => all_good hx
  have hcnt := cnt3 (t := t) (s := s) (reportAll t s) fun x hx => by
    obtain ⟨m, q, e, v, _, _, _, _, _, h6, h7, _⟩ := good_is (hgood x hx)
    rw [h6]; exact h7
  have c0 : 0 ≤ cnt (fun x : Report => x.light == 0) (reportAll t s) := by unfold cnt; omega
  have c1 : 0 ≤ cnt (fun x : Report => x.light == 1) (reportAll t s) := by unfold cnt; omega
  have c2 : 0 ≤ cnt (fun x : Report => x.light == 2) (reportAll t s) := by unfold cnt; omega
  simp only [e, bnd_some, rC_v, rT_ss, iReportOf_v t _ _ ht, sReportOf_v t _ _ ht, iReportAll_v t s ht, rws_report, iIsReport_b t _ ht, len_report, geti_report, iVerdict_d, rws_path, geti_path]
  generalize hT : iter (_ : _ → _ → Option Bool) NN _ = T0
  have tail : T0 = some true := by
    rw [← hT]
    refine (iter_list0 (reportAll t s) (by omega) (fun k (_ : Unit) => ((code, (reportAll t s, (k : Int))), t)) () (fun _ _ _ => some true) rfl ?_ ?_)
    · intro rec _
      simp only [show decide (((reportAll t s).length : Int) < ((reportAll t s).length : Int)) = false by simp, cnd_ff]
      simp only [iCountLights_v _ _ hsm, bnd_some, e2, W_id (n := cnt (fun x : Report => x.light == 0) (reportAll t s) + cnt (fun x : Report => x.light == 1) (reportAll t s)) (by omega) (by omega), W_id (n := cnt (fun x : Report => x.light == 0) (reportAll t s) + cnt (fun x : Report => x.light == 1) (reportAll t s) + cnt (fun x : Report => x.light == 2) (reportAll t s)) (by omega) (by omega), hcnt, W_id (n := ((reportAll t s).length : Int)) (by omega) (by omega), bne_self_eq_false, cnd_ff, beq_ba, v1, v2, v3, cnd_tt]
    · intro rec k x _ hx hk hr
      have hr := hr ()
      simp only [Int.natCast_succ] at hr
      simp only [show decide ((k : Int) < ((reportAll t s).length : Int)) = true by simpa using hk, cnd_tt]
      refine (iter_list0 ((reportAll t s).take k) (by simp; omega) (fun j (_ : Unit) => ((code, (reportAll t s, ((k : Int), (j : Int)))), t)) () (fun _ _ _ => some true) rfl ?_ ?_)
      · intro rec2 _
        have hmin : min k (reportAll t s).length = k := by omega
        simp only [List.length_take, hmin, show decide ((k : Int) < (k : Int)) = false by simp, cnd_ff, W_n1 (show k ≤ 9223372036854775806 by omega)]
        exact hr
      · intro rec2 j y _ hy hj hr2
        have hr2 := hr2 ()
        have hjk : j < k := by simp at hj; omega
        have hy' : (reportAll t s)[j]? = some y := by rw [List.getElem?_take, if_pos hjk] at hy; exact hy
        simp only [Int.natCast_succ] at hr2
        obtain ⟨m, n, q, q', f1, f2, f3, f4, f5, f6⟩ := good_pair (hgood x (mem_at hx)) (hgood y (mem_at hy'))
        simp only [show decide ((j : Int) < (k : Int)) = true by simpa using hjk, cnd_tt, getZ_at hx, getZ_at hy', iFindPath_v _ _ ht.1, bnd_some, get_at' f1 f2, get_at' f3 f4, beq_ba, iConflict_v, W_n1 (show j ≤ 9223372036854775806 by omega)]
        rw [show decide (vd x y = ⟨[].toArray⟩) = false from decide_eq_false f5, cnd_ff]
        cases hc : conflict q q' with
        | false => rw [cnd_ff]; exact hr2
        | true => rw [cnd_tt, show decide (vd x y = ⟨[110, 101, 105, 116, 104, 101, 114].toArray⟩) = false from decide_eq_false (f6 hc), cnd_ff]; exact hr2
  rw [tail]
  simp only [bne_self_eq_false, cnd_ff]
  cases hok : (report t p s).2 with
  | false => rw [cnd_ff]
  | true =>
    obtain ⟨r1, r2⟩ := report_back hok
    rw [cnd_tt, r1, r2]
    simp only [hok, if_true, r1, r2]
    have hs := report_since hok
    have ho := report_other hok
    have heq : eqB [(I p), (I s), (I (report t p s).1.light), (I (report t p s).1.since), (I (report t p s).1.other)] [(I p), (I s), (I (report t p s).1.light), (I (report t p s).1.since), (I (report t p s).1.other)] = true := by simp [eqB, eqV]
    simp only [heq, Bool.not_true, cnd_ff, hs, bne_self_eq_false]
    by_cases hl : (report t p s).1.light = 0
    · simp [hl]
    · have : ((report t p s).1.light != 0) = true := by simpa using hl
      simp [this, ho hl]
end Go.Sh
