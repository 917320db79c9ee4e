import Derived.Test.YtdeoffkhnkdhmaaFxZC
import Derived.Test.YtdeoffkhnkdhmaaRows
import Derived.KernelRfl
namespace Go.Proofs.Ytdeoffkhnkdhmaa
open Go.Fx

def emS : Value := .string ⟨#[]⟩
def tab : List (Nat × TD) := [(3, .sc (.int .i64 0)), (4, .sc (.bool false)), (9, .sc emS), (81, .sl 9 1), (82, .ar 6 1 [(none, emS), (none, emS), (none, emS), (none, emS), (none, emS), (none, emS)])]
theorem tab_ok : TOk Try.prog (tabT tab) := tabT_ok (by kernel_rfl)
def reached : List Nat := [3, 15, 16, 63]
noncomputable def fns (f : Nat) : Option Func := bif memN reached f then Try.prog.funcs[f]? else none
theorem mixed : Try.prog.follows .mixedOrders = true := by kernel_rfl
theorem fns_names : (reached.all fun f => (Try.prog.funcs[f]?).any fun fn => !(fn.name == "runtime.NumGoroutine")) = true := by kernel_rfl
theorem memN_mem : ∀ {l : List Nat} {x : Nat}, memN l x = true → x ∈ l
  | [], _, h => by cases h
  | a :: r, x, h => by
    simp only [memN, Bool.or_eq_true] at h
    rcases h with h | h
    · rw [Nat.eq_of_beq_eq_true h]; exact List.mem_cons_self ..
    · exact List.mem_cons_of_mem _ (memN_mem h)
theorem fns_ok : FnsOk Try.prog fns := by
  intro f fn h
  unfold fns at h
  cases hm : memN reached f with
  | false => rw [hm] at h; cases h
  | true =>
    rw [hm] at h
    have h' : Try.prog.funcs[f]? = some fn := h
    refine ⟨h', ?_⟩
    have := List.all_eq_true.1 fns_names f (memN_mem hm)
    rw [h'] at this
    simpa using this
noncomputable def noH (_ : Nat) : Hints := ⟨[], [], [], []⟩
noncomputable abbrev ev (n : Nat) : CallF := evalN (tabT tab) fns (fun _ => none) (fun _ => false) noH n
theorem ev_ok (n : Nat) : CallOk Try.prog 0 (fun _ => none) (ev n) := evalN_ok tab_ok mixed fns_ok (fun _ _ h => by cases h) n
end Go.Proofs.Ytdeoffkhnkdhmaa
