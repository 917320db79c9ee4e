/- StageSizes: the law. -/
import Derived.Test.YtkbhcieejpbjpaaSt3
set_option linter.all false
namespace Go.Sh
open Go.Fx
theorem sapp (l : List Int) (n : Nat) {β : Type} (K : List Int → Option β) : rws iR (l.map iR.enc ++ [[I ((n : Nat) : Int)]]) K = K (l ++ [(n : Int)]) := rws_app_i' l _ K
def sizes (l : List Path) : List Int := (stagesOf l).map fun s => ((s.length : Nat) : Int)
theorem sStageSizes_v (l : List Path) (h : Sm l) : S_sStageSizes l = some (sizes l) := by
  unfold S_sStageSizes sizes
  simp only [rws_path, sStagesOf_v l h, bnd_some, rws_il_oo, rws_il_so, rws_i, len_il, len_i, geti_il_so]
  have hs := (stagesOf_sm l).1
  generalize stagesOf l = S at hs
  refine mapG_loop S (fun s => ((s.length : Nat) : Int)) (by omega) (fun k acc => (acc, S, (k : Int))) some rfl ?_ ?_
  · intro rec acc ha
    simp only
    rw [show decide (((S.length : Nat) : Int) < ((S.length : Nat) : Int)) = false from decide_eq_false (by omega), cnd_ff]
  · intro rec k x acc hx hk ha
    simp only
    rw [show decide ((k : Int) < ((S.length : Nat) : Int)) = true from decide_eq_true (by omega), cnd_tt, getZ_at hx, ifA_pos (by simp; omega), sapp, W1 (by omega)]
theorem iStageSizes_v (l : List Path) (h : Sm l) : S_iStageSizes l = some (sizes l) := by
  unfold S_iStageSizes sizes
  simp only [rws_path, iStagesOf_v l h, bnd_some, rws_il_ss, rws_i, len_il, len_i, geti_il_ss]
  have hs := (stagesOf_sm l).1
  generalize stagesOf l = S at hs
  refine mapG_loop S (fun s => ((s.length : Nat) : Int)) (by omega) (fun k acc => (acc, S, ((S.length : Nat) : Int), (k : Int))) some rfl ?_ ?_
  · intro rec acc ha
    simp only
    rw [show decide (((S.length : Nat) : Int) < ((S.length : Nat) : Int)) = false from decide_eq_false (by omega), cnd_ff]
  · intro rec k x acc hx hk ha
    simp only
    rw [show decide ((k : Int) < ((S.length : Nat) : Int)) = true from decide_eq_true (by omega), cnd_tt, getZ_at hx, ifA_pos (by simp; omega), sapp, W1 (by omega)]
theorem lFnExactStageSizes_v (x : List Path) (h : x.length ≤ maxLen ∧ ∀ y ∈ x, OkPath y) : S_lFnExactStageSizes x = some true := by
  obtain ⟨r, e, d⟩ := lszPathS_v x h 1048576 (by decide) (by decide)
  unfold S_lFnExactStageSizes
  simp only [rws_path]
  rcases d with d | ⟨_, _, hs⟩
  · simp [e, d]
  · have hg : Sm (sizes x) := by
      have := (stagesOf_sm x).1
      unfold Sm sizes
      simp
      omega
    obtain ⟨n0, b0, c0, d0, f0, e0⟩ := lmarkPathS_m x hs 1 (by omega) (by omega)
    obtain ⟨n1, b1, c1, d1, f1, e1⟩ := lmarkIntS_m _ hg 1 (by omega) (by omega)
    have e2 := lheldIntS_h b1 1 n1 (by omega) (by omega) f1
    simp (disch := omega) [e, show ¬ r < 0 by omega, ltoPathS_v x hs, sStageSizes_v x hs, iStageSizes_v x hs, leqIntS_v _ _ hg, leqPathS_v _ _ hs, e0, e1, e2, cnd_no, ifA_t]
end Go.Sh
