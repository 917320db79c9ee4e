import Derived.Test.YtdeoffkhnkdhmaaFxSA
namespace Go.Proofs.Ytdeoffkhnkdhmaa
open Go.Fx

theorem in63 (C : CallF) (x lo hi : Int) : evalBody (ctxOf (tabT tab) C (fun _ => false) (noH 63) 15) Try.f63 [I x, I lo, I hi] [] =
    bif decide (x ≥ lo) then some (Bl (decide (x ≤ hi)), []) else some (Bl false, []) := by kernel_rfl

def nm (n : Int) : List UInt8 := if n = 1 then [99, 97, 108, 108] else if n = 2 then [98, 117, 115] else if n = 3 then [108, 97, 109, 112] else if n = 4 then [112, 111, 119, 101, 114] else if n = 5 then [115, 101, 99, 111, 110, 100, 115] else if n = 6 then [104, 101, 108, 112] else []

def M63 : List AV → Option AV
  | [.lit (.int .i64 x), .lit (.int .i64 lo), .lit (.int .i64 hi)] => some (Bl (decide (x ≥ lo) && decide (x ≤ hi)))
  | _ => none
def Mnm : List AV → Option AV
  | [.lit (.int .i64 x)] => some (Sg ⟨(nm x).toArray⟩)
  | _ => none
def lift (M : List AV → Option AV) (args : List AV) (g : GS) : Option (AV × GS) := match g with | [] => (M args).map fun r => (r, []) | _ => none
def C0 : CallF := fun _ _ _ => none
def C1 : CallF := fun f => bif Nat.beq f 63 then lift M63 else C0 f
def C2 : CallF := fun f => bif Nat.beq f 15 then lift Mnm else bif Nat.beq f 16 then lift Mnm else C1 f

theorem cases6 {Q : Int → Prop} (h1 : Q 1) (h2 : Q 2) (h3 : Q 3) (h4 : Q 4) (h5 : Q 5) (h6 : Q 6) {x : Int} (a : 1 ≤ x) (b : x ≤ 6) : Q x := by
  have : x = 1 ∨ x = 2 ∨ x = 3 ∨ x = 4 ∨ x = 5 ∨ x = 6 := by omega
  rcases this with rfl | rfl | rfl | rfl | rfl | rfl <;> assumption
theorem nm_out {x : Int} (h : ¬ (1 ≤ x ∧ x ≤ 6)) : nm x = [] := by
  unfold nm
  repeat' (rw [if_neg (by omega)])

theorem nm15 (x : Int) : ∃ R, evalBody (ctxOf (tabT tab) C1 (fun _ => false) (noH 15) 10) Try.f15 [I x] [] =
    bif !(decide (x ≥ 1) && decide (x ≤ 6)) then some (Sg ⟨#[]⟩, []) else R := ⟨_, rfl⟩
theorem nm15_all (x : Int) : evalBody (ctxOf (tabT tab) C1 (fun _ => false) (noH 15) 10) Try.f15 [I x] [] = some (Sg ⟨(nm x).toArray⟩, []) := by
  by_cases h : 1 ≤ x ∧ x ≤ 6
  · exact cases6 (Q := fun x => evalBody (ctxOf (tabT tab) C1 (fun _ => false) (noH 15) 10) Try.f15 [I x] [] = some (Sg ⟨(nm x).toArray⟩, [])) (by kernel_rfl) (by kernel_rfl) (by kernel_rfl) (by kernel_rfl) (by kernel_rfl) (by kernel_rfl) h.1 h.2
  · obtain ⟨R, hR⟩ := nm15 x
    have hb : (!(decide (x ≥ 1) && decide (x ≤ 6))) = true := by simp; omega
    rw [hR, hb, nm_out h]
    rfl

theorem nm16 (x : Int) : ∃ R, evalBody (ctxOf (tabT tab) C1 (fun _ => false) (noH 16) 15) Try.f16 [I x] [] =
    bif decide (x < 1) then some (Sg ⟨#[]⟩, []) else bif decide (x > 6) then some (Sg ⟨#[]⟩, []) else R := ⟨_, rfl⟩
theorem nm16_all (x : Int) : evalBody (ctxOf (tabT tab) C1 (fun _ => false) (noH 16) 15) Try.f16 [I x] [] = some (Sg ⟨(nm x).toArray⟩, []) := by
  by_cases h : 1 ≤ x ∧ x ≤ 6
  · exact cases6 (Q := fun x => evalBody (ctxOf (tabT tab) C1 (fun _ => false) (noH 16) 15) Try.f16 [I x] [] = some (Sg ⟨(nm x).toArray⟩, [])) (by kernel_rfl) (by kernel_rfl) (by kernel_rfl) (by kernel_rfl) (by kernel_rfl) (by kernel_rfl) h.1 h.2
  · obtain ⟨R, hR⟩ := nm16 x
    rw [hR, nm_out h]
    by_cases h1 : x < 1
    · rw [show decide (x < 1) = true by simpa using h1]; rfl
    · rw [show decide (x < 1) = false by simpa using h1, show decide (x > 6) = true by simp; omega]; rfl

theorem law3 (x : Int) : evalBody (ctxOf (tabT tab) C2 (fun _ => false) (noH 3) 12) Try.f3 [I x] [] =
    bif !((⟨(nm x).toArray⟩ : ByteArray).toList == (⟨(nm x).toArray⟩ : ByteArray).toList) then some (Bl false, []) else some (Bl true, []) := by kernel_rfl
theorem law3_all (x : Int) : evalBody (ctxOf (tabT tab) C2 (fun _ => false) (noH 3) 12) Try.f3 [I x] [] = some (Bl true, []) := by
  rw [law3]
  simp

def M3 : List AV → Option AV
  | [.lit (.int .i64 _)] => some (Bl true)
  | _ => none
def C3 : CallF := fun f => bif Nat.beq f 3 then lift M3 else C2 f

theorem call_of {C : CallF} {f : Nat} {fn : Func} {M : List AV → Option AV} (hC : CallOk Try.prog 0 (fun _ => none) C) (hfn : Try.prog.funcs[f]? = some fn) (hname : (fn.name == "runtime.NumGoroutine") = false)
    (h : ∀ args res, M args = some res → evalBody (ctxOf (tabT tab) C (fun _ => false) (noH f) fn.ntmps) fn args [] = some (res, [])) : CallAt Try.prog 0 (fun _ => none) f (lift M) := by
  intro args g res g' hl
  cases g with
  | cons _ _ => cases hl
  | nil =>
    have hl' : ((M args).map fun r => (r, ([] : GS))) = some (res, g') := hl
    rw [Option.map_eq_some_iff] at hl'
    obtain ⟨r, h1, h2⟩ := hl'
    cases h2
    exact evalBody_ok (E := ctxOf (tabT tab) C (fun _ => false) (noH f) fn.ntmps) tab_ok hC mixed hfn hname rfl args [] _ [] (h args _ h1)

theorem add_ok {C : CallF} {f : Nat} {M : List AV → Option AV} (hC : CallOk Try.prog 0 (fun _ => none) C) (h : CallAt Try.prog 0 (fun _ => none) f (lift M)) : CallOk Try.prog 0 (fun _ => none) (fun k => bif Nat.beq k f then lift M else C k) := by
  intro k
  show CallAt _ _ _ k (bif Nat.beq k f then lift M else C k)
  cases hb : Nat.beq k f with
  | true => rw [Nat.eq_of_beq_eq_true hb]; exact h
  | false => exact hC k

theorem C0_ok : CallOk Try.prog 0 (fun _ => none) C0 := fun _ _ _ _ _ h => by cases h
theorem C1_ok : CallOk Try.prog 0 (fun _ => none) C1 := add_ok C0_ok (call_of C0_ok Try.func63 (by kernel_rfl) fun args res h => by
  unfold M63 at h
  split at h
  · cases h
    rename_i x lo hi
    rw [show Try.f63.ntmps = 15 from Try.ntmps63, in63]
    cases decide (x ≥ lo) <;> rfl
  · cases h)
theorem C2_ok : CallOk Try.prog 0 (fun _ => none) C2 := add_ok (add_ok C1_ok (call_of C1_ok Try.func16 (by kernel_rfl) fun args res h => by
  unfold Mnm at h
  split at h
  · cases h
    rw [show Try.f16.ntmps = 15 from Try.ntmps16, nm16_all]
  · cases h)) (call_of C1_ok Try.func15 (by kernel_rfl) fun args res h => by
  unfold Mnm at h
  split at h
  · cases h
    rw [show Try.f15.ntmps = 10 from Try.ntmps15, nm15_all]
  · cases h)
end Go.Proofs.Ytdeoffkhnkdhmaa
