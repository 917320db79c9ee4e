/- The longest wait, the end of a stage, what the bus wants. -/
import Derived.Test.YtjgfhonfmjfabaaGreatQB
set_option linter.all false
namespace Go.Sh
open Go.Fx
def longer (s : List Int) (b : Option Want) (y : Want) : Option Want := if has s y.path = true then b else match b with | none => some y | some x => if x.wait < y.wait then some y else some x
def longest (w : List Want) (s : List Int) : Int := match w.foldl (longer s) none with | none => 0 | some x => x.path
def bestW (w : List Want) (b : Int) : Option Want := if b < 0 then none else w[b.toNat]?
theorem sLongestWant_v (w : List Want) (s : List Int) (hw : Sm w) (hs : Sm s) : S_sLongestWant w s = some (longest w s) := by
  have hw' := hw
  unfold Sm at hw'
  unfold S_sLongestWant
  simp only [rws_want, rws_i, len_want, geti_want]
  refine (iter_listJ w (by omega) (fun k (b : Int) => (w, s, b, (k : Int))) (-1) (fun _ b => b = -1 ∨ ∃ (n : Nat) (x : Want), b = n ∧ w[n]? = some x) (.inl rfl) (fun r _ b => some (match r.foldl (longer s) (bestW w b) with | none => 0 | some x => x.path)) rfl ?_ ?_).trans ?_
  · intro rec b hJ
    rcases hJ with rfl | ⟨n, x, rfl, hx⟩
    · simp [bestW]
    · simp [bestW, getZ_at hx, hx, show ¬ ((n : Int) < 0) by omega]
  · intro rec k x b hJ hx hk hr
    simp only [Int.natCast_succ] at hr
    have hk2 : k ≤ 9223372036854775806 := by omega
    simp only [show decide (((k : Nat) : Int) < ((w.length : Nat) : Int)) = true from decide_eq_true (by omega), cnd_tt, getZ_at hx, sl6Has_v s _ hs, bnd_some, W_n1 hk2, List.foldl_cons]
    have hk' : bestW w (k : Int) = some x := by simp [bestW, hx, show ¬ ((k : Int) < 0) by omega]
    cases hh : has s x.path with
    | true => simp [longer, hh, hr b hJ]
    | false =>
      have h2 := hr (k : Int) (.inr ⟨k, x, rfl, hx⟩)
      rcases hJ with rfl | ⟨n, y, rfl, hy⟩
      · simp [longer, hh, h2, hk', show bestW w (-1) = none from rfl]
      · have hn' : bestW w (n : Int) = some y := by simp [bestW, hy, show ¬ ((n : Int) < 0) by omega]
        have h3 := hr (n : Int) (.inr ⟨n, y, rfl, hy⟩)
        simp only [hn', Bool.not_false, cnd_tt, show decide ((n : Int) < 0) = false from decide_eq_false (by omega), cnd_ff, getZ_at hy]
        by_cases c : x.wait > y.wait
        · simp [longer, hh, c, h2, hk']
        · simp [longer, hh, c, h3, hn', show ¬ y.wait < x.wait by omega]
  · rfl
theorem iLongestWant_v (w : List Want) (s : List Int) (hw : Sm w) (hs : Sm s) : S_iLongestWant w s = some (longest w s) := by
  have hw' := hw
  unfold Sm at hw'
  unfold S_iLongestWant
  simp only [rws_want, rws_i, len_want, geti_want]
  refine (iter_listJ w (by omega) (fun k (b : Bool × Want) => ((s, b.1, w, (w.length : Int), (k : Int)), b.2)) (false, ⟨0, 0⟩) (fun _ b => b.1 = false → b.2 = ⟨0, 0⟩) (fun _ => rfl) (fun r _ b => some (match r.foldl (longer s) (if b.1 = true then some b.2 else none) with | none => 0 | some x => x.path)) rfl ?_ ?_).trans ?_
  · rintro rec ⟨f, z⟩ hJ
    cases f with
    | true => simp
    | false =>
      obtain rfl : z = ⟨0, 0⟩ := hJ rfl
      simp
  · rintro rec k x ⟨f, z⟩ hJ hx hk hr
    simp only [Int.natCast_succ] at hr
    have hk2 : k ≤ 9223372036854775806 := by omega
    simp only [show decide (((k : Nat) : Int) < ((w.length : Nat) : Int)) = true from decide_eq_true (by omega), cnd_tt, getZ_at hx, slices_Contains_int_int_v s _ hs, bnd_some, W_n1 hk2, List.foldl_cons]
    have e1 := hr (true, x) (by simp)
    have e2 := hr (f, z) hJ
    cases hh : has s x.path with
    | true => simpa [longer, hh] using e2
    | false =>
      cases f with
      | false => simpa [longer, hh] using e1
      | true =>
        by_cases c : x.wait > z.wait
        · simpa [longer, hh, c] using e1
        · simpa [longer, hh, c, show ¬ z.wait < x.wait by omega] using e2
  · rfl
def canEnd (l : List Path) (x : Control) : Bool := isControl l x && (x.next.isEmpty && decide (x.since ≥ leastGreen l x.stage))
theorem sCanEnd_v (l : List Path) (x : Control) (h : Sm l) (hx : SmControl x) : S_sCanEnd l x = some (canEnd l x) := by
  unfold S_sCanEnd canEnd
  simp only [rws_path, rws_i, eta_Control, sIsControl_v l x h hx, bnd_some, len_i, len0, sLeastGreen_v l _ h hx.1]
  cases isControl l x <;> cases x.next.isEmpty <;> simp
theorem iCanEnd_v (l : List Path) (x : Control) (h : Sm l) (hx : SmControl x) : S_iCanEnd l x = some (canEnd l x) := by
  unfold S_iCanEnd canEnd
  simp only [rws_path, rws_i, eta_Control, iIsControl_v l x h hx, bnd_some, len_i, len0, iLeastGreen_v l _ h hx.1]
  cases isControl l x <;> cases x.next.isEmpty <;> simp
def bsNone : ByteArray := ByteArray.mk (List.toArray [])
def bsHold : ByteArray := ByteArray.mk (List.toArray [104, 111, 108, 100])
def bsCall : ByteArray := ByteArray.mk (List.toArray [99, 97, 108, 108])
def wish (l : List Path) (x : Control) (r : Prio) : ByteArray :=
  if isControl l x && (isPrio l r && !(r.path == 0)) then (if has x.stage r.path && x.next.isEmpty then bsHold else if !has x.stage r.path && canEnd l x then bsCall else bsNone) else bsNone
theorem sPrioWish_v (l : List Path) (x : Control) (r : Prio) (h : Sm l) (hx : SmControl x) : S_sPrioWish l x r = some (wish l x r) := by
  unfold S_sPrioWish wish bsNone bsHold bsCall
  simp only [rws_path, rws_i, eta_Control, sIsControl_v l x h hx, bnd_some, len_i, len0, sIsPrio_v l _ h, sl6Has_v _ _ hx.1, sCanEnd_v l x h hx]
  cases isControl l x <;> cases isPrio l r <;> cases (r.path == 0) <;> cases has x.stage r.path <;> cases x.next.isEmpty <;> cases canEnd l x <;> rfl
theorem iPrioWish_v (l : List Path) (x : Control) (r : Prio) (h : Sm l) (hx : SmControl x) : S_iPrioWish l x r = some (wish l x r) := by
  unfold S_iPrioWish wish bsNone bsHold bsCall
  simp only [rws_path, rws_i, eta_Control, iIsControl_v l x h hx, bnd_some, len_i, len0, iIsPrio_v l _ h, slices_Contains_int_int_v _ _ hx.1, iCanEnd_v l x h hx]
  cases isControl l x <;> cases isPrio l r <;> cases (r.path == 0) <;> cases has x.stage r.path <;> cases x.next.isEmpty <;> cases canEnd l x <;> rfl
end Go.Sh
