/- Abstract values and a pure evaluator over the model's Code: values are trees, slices are lists, each slice bears a flag that says whether this activation owns its memory. -/
import Derived.Orders
import Derived.Laws.AppendOwn
set_option linter.all false
namespace Go.Fx
inductive Own where | shr | own | unq
  deriving DecidableEq
inductive AV where
  | lit (v : Value)
  | slc (o : Own) (k : Nat) (xs : List (List AV))
  | agg (cs : List AV)
  | tup (vs : List AV)
  | fn (f : Nat) (caps : List AV)
  | rp (cs : List AV)
  | gp (id off : Nat)
  | opq
  | nilq (xs : List (List AV))
abbrev junk : AV := .tup []
instance : Inhabited AV := ⟨junk⟩
abbrev I (n : Int) : AV := .lit (.int .i64 n)
abbrev Bl (b : Bool) : AV := .lit (.bool b)
abbrev Sg (s : ByteArray) : AV := .lit (.string s)
mutual
def AV.clr : AV → AV
  | .lit v => .lit v
  | .slc o k xs => match o with
    | .unq => .opq
    | _ => .slc .shr k xs
  | .agg cs => .agg (clrs cs)
  | .tup vs => .tup (clrs vs)
  | .fn f caps => .fn f (clrs caps)
  | .rp cs => .rp (clrs cs)
  | .gp i o => .gp i o
  | .opq => .opq
  | .nilq xs => .nilq xs
def clrs : List AV → List AV
  | [] => []
  | a :: as => a.clr :: clrs as
end
mutual
def AV.bor : AV → AV
  | .lit v => .lit v
  | .slc o k xs => match o with
    | .unq => .slc .shr k (borss xs)
    | _ => .slc .shr k xs
  | .agg cs => .agg (bors cs)
  | .tup vs => .tup (bors vs)
  | .fn f caps => .fn f (clrs caps)
  | .rp cs => .rp (clrs cs)
  | .gp i o => .gp i o
  | .opq => .opq
  | .nilq xs => .nilq xs
def bors : List AV → List AV
  | [] => []
  | a :: as => a.bor :: bors as
def borss : List (List AV) → List (List AV)
  | [] => []
  | a :: as => bors a :: borss as
end
mutual
def AV.toU : AV → AV
  | .slc o k xs => match o with
    | .own => .slc .unq k (toUss xs)
    | o => .slc o k xs
  | .agg cs => .agg (toUs cs)
  | .tup vs => .tup (toUs vs)
  | a => a
def toUs : List AV → List AV
  | [] => []
  | a :: as => a.toU :: toUs as
def toUss : List (List AV) → List (List AV)
  | [] => []
  | a :: as => toUs a :: toUss as
end
mutual
def AV.okU : AV → Bool
  | .lit _ => true
  | .slc o _ xs => match o with
    | .own => okUss xs
    | _ => false
  | .agg cs => okUs cs
  | .tup vs => okUs vs
  | _ => false
def okUs : List AV → Bool
  | [] => true
  | a :: as => a.okU && okUs as
def okUss : List (List AV) → Bool
  | [] => true
  | a :: as => okUs a && okUss as
end
mutual
def AV.frz : AV → AV
  | .slc o k xs => match o with
    | .unq => .slc .own k (frzss xs)
    | o => .slc o k xs
  | .agg cs => .agg (frzs cs)
  | .tup vs => .tup (frzs vs)
  | a => a
def frzs : List AV → List AV
  | [] => []
  | a :: as => a.frz :: frzs as
def frzss : List (List AV) → List (List AV)
  | [] => []
  | a :: as => frzs a :: frzss as
end
inductive Ag where
  | hd
  | st (m : Nat)
  | el (e k n o : Nat)
inductive SV where
  | val (a : AV)
  | lp (key i off : Nat)
  | la (key : Nat)
  | lv (key i off : Nat) (ag : Ag)
  | no
def scal : Value → Bool
  | .bool _ => true
  | .int _ _ => true
  | .string _ => true
  | .nilFunc => true
  | _ => false
def AV.one : AV → Bool
  | .agg _ => false
  | .tup _ => false
  | .gp _ _ => false
  | _ => true
def AV.ng : AV → Bool
  | .tup _ => false
  | .gp _ _ => false
  | _ => true
def cellsN (n : Nat) : AV → Option (List AV)
  | .agg cs => bif Nat.beq cs.length n then some cs else none
  | .tup _ => none
  | .gp _ _ => none
  | a => bif Nat.beq n 1 then some [a] else none
end Go.Fx
