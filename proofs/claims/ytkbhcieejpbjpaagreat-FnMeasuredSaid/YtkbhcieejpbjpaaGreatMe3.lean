/- FnMeasured: the law. -/
import Derived.Test.YtkbhcieejpbjpaaGreatMe2
set_option linter.all false
namespace Go.Sh
open Go.Fx
theorem lFnMeasured_v (code : List Int) (h : code.length ≤ maxLen ∧ ∀ y ∈ code, 0 ≤ y ∧ y ≤ 255) : S_lFnMeasured code = some true := by
  unfold S_lFnMeasured
  simp only [rws_y, lbig_v, bnd_some]
  by_cases hb : (code.length : Int) > 1048576
  · rw [show decide ((code.length : Int) > 1048576) = true by simpa using hb, cnd_tt]
  rw [show decide ((code.length : Int) > 1048576) = false by simpa using hb, cnd_ff]
  obtain ⟨l, k0, e1, hl⟩ := sDrawCountKind_g code (by omega)
  obtain ⟨r, i, u, e2, hr⟩ := sDrawOpenShare_g code (by omega)
  obtain ⟨w, e3, hw⟩ := sDrawLongestWait_g code (by omega)
  obtain ⟨x, e4, hx⟩ := sDrawCountBroken_g code (by omega)
  have hs : Sm l := by unfold Sm; omega
  have hss : (sizes l).length ≤ 40 := by unfold sizes; rw [List.length_map]; exact (stagesOf_sm l).1
  have hw' := hw
  unfold Sm at hw'
  obtain ⟨b1, b2, b3⟩ := busiest_r l
  obtain ⟨o1, o2⟩ := openShare_r r i u
  have hc := cnt_le (fun x => x.broken) x
  simp only [e1, bnd_some, rws_path, rws_i, rws_want, iArePaths_v l hs, iCountKind_v l _ hs, iBusiestArm_v l hs, iStageSizes_v l hs, len_path, len_i, geti_i, geti_want, len_want]
  have fin : ∀ (rest : Option Bool), rest = some true → (cnd (arePaths l) (cnd (W (W (cnt (fun x => x.kind == 1) l + cnt (fun x => x.kind == 2) l) + cnt (fun x => x.kind == 3) l) != ((l.length : Nat) : Int)) (some false) rest) rest) = some true := fun rest hrest => by
    cases ha : arePaths l with
    | false => exact hrest
    | true =>
      have hk := kinds_sum l (goP_mem (are_go ha))
      have h1 := cnt_le (fun x : Path => x.kind == 1) l
      have h2 := cnt_le (fun x : Path => x.kind == 2) l
      have h3 := cnt_le (fun x : Path => x.kind == 3) l
      rw [cnd_tt, W_id (n := cnt (fun x => x.kind == 1) l + cnt (fun x => x.kind == 2) l) (by omega) (by omega), W_id (by omega) (by omega), hk, bne_self_eq_false, cnd_ff]
      exact hrest
  refine fin _ ?_
  refine iter_fix (sizes l).length (by omega) (fun k => (code, (l, (busiestArm l, (sizes l, (k : Int)))))) (fun _ => True) trivial _ rfl ?_ ?_
  · intro rec _
    simp only
    rw [show decide ((((sizes l).length : Nat) : Int) < (((sizes l).length : Nat) : Int)) = false from decide_eq_false (by omega), cnd_ff, e2, bnd_some]
    simp only [rws_note_so, iOpenShare_v r i u hr, bnd_some, e3, iLongestWait_v w hw]
    refine iter_fix w.length (by omega) (fun k => (code, (l, (busiestArm l, (openShare r i u, (w, (longestWait w, (k : Int)))))))) (fun _ => True) trivial _ rfl ?_ ?_
    · intro rec _
      simp only
      rw [show decide (((w.length : Nat) : Int) < ((w.length : Nat) : Int)) = false from decide_eq_false (by omega), cnd_ff, e4, bnd_some]
      simp only [joinA, rws_lamp, len_lamp, iArePaths_v l hs, iCountBroken_v x hx, bnd_some]
      rw [show decide (busiestArm l ≥ Neg.neg 1) = true from decide_eq_true b1, cnd_tt, show decide (busiestArm l ≤ 3) = true from decide_eq_true b2, b3, show decide (openShare r i u ≥ 0) = true from decide_eq_true o1, show decide (openShare r i u ≤ 100) = true from decide_eq_true o2, show decide (cnt (fun x => x.broken) x ≤ (x.length : Int)) = true from decide_eq_true hc.2]
      cases arePaths l with
      | false => simp
      | true => simp
    · intro rec k hk _ hrec
      have hrec := hrec trivial
      have hz := List.getElem?_eq_getElem hk
      generalize w[k] = p at hz
      simp only at hrec ⊢
      rw [show decide ((k : Int) < ((w.length : Nat) : Int)) = true from decide_eq_true (by omega), cnd_tt, getZ_at hz, show decide (p.wait > longestWait w) = false from decide_eq_false (by have := longest_all (List.mem_of_getElem? hz); omega), cnd_ff, W1 (by omega)]
      exact hrec
  · intro rec k hk _ hrec
    have hrec := hrec trivial
    have hz := List.getElem?_eq_getElem hk
    generalize (sizes l)[k] = p at hz
    have hp := sizes_r (List.mem_of_getElem? hz)
    simp only at hrec ⊢
    rw [show decide ((k : Int) < (((sizes l).length : Nat) : Int)) = true from decide_eq_true (by omega), cnd_tt, getZ_at hz, show decide (p < 1) = false from decide_eq_false (by omega), cnd_ff, getZ_at hz, show decide (p > ((l.length : Nat) : Int)) = false from decide_eq_false (by omega), cnd_ff, W1 (by omega)]
    exact hrec
end Go.Sh
