/- A pure evaluator over the model's Code. -/
import Derived.Test.YtjojcbmkcnkjoaaGreatDoorFzB2
import Derived.Orders
set_option linter.all false
namespace Go.Fx
structure LObj where
  frz : Bool
  k : Nat
  rows : List (List AV)
structure Entry where
  ps : RF
  rs : RQ
  S : ps.τ → Option rs.τ
structure St where
  env : Nat → SV
  L : Nat → Option LObj
  G : GS
def upd {α : Type} (f : Nat → α) (n : Nat) (v : α) : Nat → α := fun i => bif Nat.beq i n then v else f i
def put (s : St) (d : Option Nat) (v : SV) : St :=
  match d with
  | some d => { s with env := upd s.env d v }
  | none => s
inductive TD where
  | sc (z : Value)
  | sl (e k : Nat)
  | st (cz : List (Option Nat × Value)) (offs : List (Nat × Nat))
  | ar (n k : Nat) (cz : List (Option Nat × Value))
  | bad
def TD.size : TD → Nat
  | .sc _ => 1
  | .sl _ _ => 1
  | .st cz _ => cz.length
  | .ar _ _ cz => cz.length
  | .bad => 0
def bySc : Value → Nat × Nat
  | .int k _ => match k with
    | .i64 => (8, 8)
    | .u8 => (1, 1)
    | _ => (8, 8)
  | .bool _ => (1, 1)
  | .string _ => (16, 8)
  | _ => (24, 8)
def byCells : List (Option Nat × Value) → Nat → Nat → Nat
  | [], o, al => (o + (al - 1)) / al * al
  | (some _, _) :: r, o, _ => byCells r ((o + 7) / 8 * 8 + 24) 8
  | (none, v) :: r, o, al => byCells r ((o + ((bySc v).2 - 1)) / (bySc v).2 * (bySc v).2 + (bySc v).1) (max al (bySc v).2)
def byA : TD → Nat
  | .sc v => (bySc v).1
  | .sl _ _ => 24
  | .st cz _ => byCells cz 0 1
  | .ar _ _ cz => byCells cz 0 1
  | .bad => 0
def TD.ok : TD → Bool
  | .bad => false
  | _ => true
def kindV : Value → Nat
  | .int _ _ => 1
  | .bool _ => 2
  | .string _ => 3
  | _ => 0
def kinds : List (Option Nat × Value) → Option (List Nat)
  | [] => some []
  | (none, z) :: r => bif Nat.beq (kindV z) 0 then none else (kinds r).map (kindV z :: ·)
  | _ => none
def TD.bk : TD → List Nat
  | .sc (.bool _) => [9]
  | .st cz _ => (kinds cz).getD []
  | _ => []
def TD.isAgg : TD → Bool
  | .st _ _ => true
  | .ar _ _ _ => true
  | _ => false
def cellA : Option Nat → Value → AV
  | none, v => bif scal v then .lit v else junk
  | some k, .slice none 0 0 => .slc .own k []
  | some _, _ => junk
def czA : List (Option Nat × Value) → List AV
  | [] => []
  | (o, v) :: r => cellA o v :: czA r
def TD.zero : TD → List AV
  | .sc z => [.lit z]
  | .sl _ k => [.slc .own k []]
  | .st cz _ => czA cz
  | .ar _ _ cz => czA cz
  | .bad => []
def zipA : List (Option Nat × Value) → List Value → List AV
  | (o, _) :: r, v :: vs => cellA o v :: zipA r vs
  | _, _ => []
def okZip : List (Option Nat × Value) → List Value → Bool
  | (o, _) :: r, v :: vs => (cellA o v).one && okZip r vs
  | [], [] => true
  | _, _ => false
def constA (d : TD) (v : Value) : Option AV :=
  match d, v with
  | .sl _ k, .slice none 0 0 => some (.slc .own k [])
  | .st cz _, .agg cs => bif okZip cz cs.toList then some (.agg (zipA cz cs.toList)) else none
  | .ar _ _ cz, .agg cs => bif okZip cz cs.toList then some (.agg (zipA cz cs.toList)) else none
  | .sc _, v => bif scal v then some (.lit v) else none
  | _, _ => none
def constP (cz : List (Option Nat × Value)) (off : Option (Nat × Nat)) (v : Value) : Option AV :=
  match off, v with
  | some (off, _), .agg cs => bif okZip ((cz.drop off).take cs.size) cs.toList then some (.agg (zipA ((cz.drop off).take cs.size) cs.toList)) else none
  | some (off, _), v => match cz[off]? with
    | some (o, _) => bif (cellA o v).one then some (cellA o v) else none
    | none => none
  | none, _ => none
inductive Ex where | nrm | ex (id : Nat) | ret
structure Live where
  vs : List Nat
  ps : List (Nat × Nat × Bool)
  ks : List (Nat × Nat × Bool × Bool)
  rt : RP
  ls : List (Nat × Nat × Nat × Nat) := []
structure Ctx where
  T : Nat → TD
  C : Nat → Nat → Option Entry
  vr : Nat → Nat → Nat
  gs : Nat → Bool
  tk : Nat → Nat → Bool
  mo : Nat → Nat → Bool
  R : Nat → RR
  ro : Nat → RR
  rt : Nat → Nat → Option RA
  hb : Nat → Nat → Nat
  th : Nat → Nat → Bool
  cu : Nat → Nat → Option Entry
  lv : Nat → Option Live
  jn : Nat → Option Live
  jb : Nat → Option Live
  jr : Nat → Option Live
  nt : Nat
  N : Nat
  kp : Bool
  ao : Nat → Bool
  pl : Nat → Bool
  sg : Nat → List (Nat × Live) := fun _ => []
def okD (nt : Nat) : Option Nat → Bool
  | some d => Nat.blt d nt
  | none => true
def okE (nt : Nat) (kp : Bool) : Option Nat → Bool
  | some d => Nat.blt d nt && !(kp && Nat.beq d 0)
  | none => true
def cnd {β : Type} (b : Bool) (x y : Option β) : Option β := bif b then x else y
def condA {β : Type} (v : AV) (x y : Option β) : Option β :=
  match v with
  | .lit (.bool b) => cnd b x y
  | _ => none
open Classical in
noncomputable def bothK {β : Type} (x y : Option β) : Option β := if x = y then x else none
noncomputable def nilK {β : Type} (xs : List (List AV)) (x y : Option β) : Option β :=
  match xs with
  | [] => bothK x y
  | _ => y
noncomputable def condN {β : Type} (v : AV) (x y : Option β) : Option β :=
  match v with
  | .lit (.bool b) => cnd b x y
  | .nilq xs => nilK xs x y
  | _ => none
def bnd {α β : Type} (x : Option α) (K : α → Option β) : Option β := x.bind K
def ifA {β : Type} (c : Prop) [Decidable c] (x : Option β) : Option β := if c then x else none
def lenV : AV → Option AV
  | .slc _ _ xs => some (I xs.length)
  | _ => none
def lenT : AV → Option AV
  | .lit (.string s) => some (I s.size)
  | _ => none
def Own.nu : Own → Bool
  | .unq => false
  | _ => true
def ixV (k : Nat) : AV → AV → Option AV
  | .slc o k' xs, .lit (.int _ i) => bif Nat.beq k k' then (bif o.nu then (if 0 ≤ i then (match xs[i.toNat]? with | some c => some (.rp (match o with | .own => c | _ => clrs c)) | none => none) else none) else none) else none
  | _, _ => none
def getn (R : RR) {β : Type} (xs : List (List AV)) (i : Nat) (K : R.τ → Option β) : Option β :=
  match xs[i]? with
  | some c => R.get c K
  | none => none
def geti (R : RR) {β : Type} (xs : List (List AV)) (n : Int) (K : R.τ → Option β) : Option β :=
  match n with
  | .ofNat m => getn R xs m K
  | .negSucc _ => none
def ofOwn : Own → List AV → List AV
  | .own, c => c
  | _, c => clrs c
def ixK {β : Type} (R : RR) (k : Nat) (a i : AV) (K : AV → Option β) : Option β :=
  match a, i with
  | .slc o k' xs, .lit (.int _ n) => bif Nat.beq k k' then bif o.nu then geti R xs n fun p => K (.rp (ofOwn o (R.enc p))) else none else none
  | _, _ => none
def ixT : AV → AV → Option AV
  | .lit (.string b), .lit (.int _ n) => if 0 ≤ n then (b.data.toList[n.toNat]?).map fun c => .lit (.int .u8 c.toNat) else none
  | _, _ => none
def mkA (d : TD) (cs : List AV) : Option AV :=
  bif d.isAgg then (if d.size ≤ cs.length then some (.agg (cs.take d.size)) else none) else cs.head?
def hdK {β : Type} (cs : List AV) (K : AV → Option β) : Option β := match cs with | c :: _ => K c | [] => none
def mkK {β : Type} (d : TD) (cs : List AV) (K : AV → Option β) : Option β :=
  bif d.isAgg then (if d.size ≤ cs.length then K (.agg (cs.take d.size)) else none) else hdK cs K
theorem mkK_eq {β : Type} (d : TD) (cs : List AV) (K : AV → Option β) : mkK d cs K = (mkA d cs).bind K := by
  unfold mkK mkA hdK
  cases d.isAgg with
  | true => simp only [cond_true]; split <;> rfl
  | false => cases cs <;> rfl
def fldP (off : Nat) : AV → Option AV
  | .rp cs => some (.rp (cs.drop off))
  | .gp i o => some (.gp i (o + off))
  | _ => none
def binI (op : BinOp) (k : IntKind) (x y : Int) : Option AV :=
  match op with
  | .add => some (.lit (.int k (k.wrap (x + y))))
  | .sub => some (.lit (.int k (k.wrap (x - y))))
  | .mul => some (.lit (.int k (k.wrap (x * y))))
  | .quo => if y = 0 then none else some (.lit (.int k (k.wrap (x.tdiv y))))
  | .rem => if y = 0 then none else some (.lit (.int k (x.tmod y)))
  | .and => some (.lit (.int k (k.wrap (BitVec.ofInt k.bits x &&& BitVec.ofInt k.bits y).toNat)))
  | .or => some (.lit (.int k (k.wrap (BitVec.ofInt k.bits x ||| BitVec.ofInt k.bits y).toNat)))
  | .xor => some (.lit (.int k (k.wrap (BitVec.ofInt k.bits x ^^^ BitVec.ofInt k.bits y).toNat)))
  | .eql => some (Bl (x == y))
  | .neq => some (Bl (x != y))
  | .lss => some (Bl (decide (x < y)))
  | .leq => some (Bl (decide (x ≤ y)))
  | .gtr => some (Bl (decide (x > y)))
  | .geq => some (Bl (decide (x ≥ y)))
  | _ => none
def binS (op : BinOp) (x y : ByteArray) : Option AV :=
  match op with
  | .add => if x.size + y.size ≤ 1099511627776 then some (Sg (x ++ y)) else none
  | .eql => some (Bl (x.toList == y.toList))
  | .neq => some (Bl (!(x.toList == y.toList)))
  | _ => none
def eqLit : AV → AV → Option Bool
  | .lit (.int k a), .lit (.int k' b) => if k = k' then some (a == b) else none
  | .lit (.bool a), .lit (.bool b) => some (a == b)
  | .lit (.string a), .lit (.string b) => some (a == b)
  | _, _ => none
def eqLits : List Nat → List AV → List AV → Option Bool
  | [], [], [] => some true
  | k :: ks, .lit a :: as, .lit b :: bs => bif Nat.beq (kindV a) k && Nat.beq (kindV b) k then (eqLit (.lit a) (.lit b)).bind fun e => bif e then eqLits ks as bs else some false else none
  | _, _, _ => none
def ckLits : List Nat → List AV → List AV → Bool
  | [], [], [] => true
  | k :: ks, .lit a :: as, .lit b :: bs => Nat.beq (kindV a) k && Nat.beq (kindV b) k && (eqLit (.lit a) (.lit b)).isSome && ckLits ks as bs
  | _, _, _ => false
def eqV : Value → Value → Bool
  | .int _ a, .int _ b => a == b
  | .bool a, .bool b => a == b
  | .string a, .string b => a == b
  | _, _ => false
def eqB : List AV → List AV → Bool
  | [.lit a], [.lit b] => eqV a b
  | .lit a :: as, .lit b :: bs => eqV a b && eqB as bs
  | _, _ => true
theorem eqLit_isSome {a b : Value} (h : (eqLit (.lit a) (.lit b)).isSome = true) : eqLit (.lit a) (.lit b) = some (eqV a b) := by
  unfold eqLit at h ⊢
  split at h
  · rename_i k x k' y e1 e2
    cases e1; cases e2
    split at h
    · rename_i hk
      simp [hk, eqV]
    · cases h
  · rename_i e1 e2; cases e1; cases e2; simp [eqV]
  · rename_i e1 e2; cases e1; cases e2; simp [eqV]
  · cases h
theorem ckLits_ok : ∀ {ks : List Nat} {as bs : List AV}, ckLits ks as bs = true → eqLits ks as bs = some (eqB as bs)
  | [], [], [], _ => rfl
  | [], [], _ :: _, h => by simp [ckLits] at h
  | [], _ :: _, _, h => by simp [ckLits] at h
  | _ :: _, [], _, h => by simp [ckLits] at h
  | _ :: _, _ :: _, [], h => by
    unfold ckLits at h
    split at h <;> first | (rename_i e _; cases e; done) | (simp_all; done)
  | k :: ks, a :: as, b :: bs, h => by
    unfold ckLits at h
    split at h
    · rename_i e; cases e
    · rename_i k ks a as b bs e1 e2 e3
      cases e1; cases e2; cases e3
      simp only [Bool.and_eq_true] at h
      obtain ⟨⟨⟨h1, h2⟩, h3⟩, h4⟩ := h
      have h5 := ckLits_ok h4
      simp only [eqLits, h1, h2, Bool.and_self, cond_true, eqLit_isSome h3, Option.bind_some, h5]
      cases as with
      | nil =>
        cases bs with
        | nil =>
          simp only [eqB]
          cases eqV a b <;> rfl
        | cons b' bs => cases ks <;> simp [eqLits] at h5
      | cons a' as =>
        have : eqB (.lit a :: a' :: as) (.lit b :: bs) = (eqV a b && eqB (a' :: as) bs) := by
          cases bs <;> simp [eqB]
        rw [this]
        cases eqV a b <;> rfl
    · cases h
def binA (bk : List Nat) (op : BinOp) : AV → AV → Option AV
  | .lit (.int k x), .lit (.int k' y) =>
    match op with
    | .shl => if y < 0 then none else some (.lit (.int k (k.wrap (x * 2 ^ (min y.toNat k.bits)))))
    | .shr => if y < 0 then none else some (.lit (.int k (x.fdiv (2 ^ (min y.toNat k.bits)))))
    | op => if k = k' then binI op k x y else none
  | .lit (.string x), .lit (.string y) => binS op x y
  | .lit (.bool x), .lit (.bool y) =>
    match bk, op with
    | [9], .eql => some (Bl (x == y))
    | [9], .neq => some (Bl (x != y))
    | _, _ => none
  | .agg xs, .agg ys =>
    bif bk.isEmpty then none else match op with
    | .eql => bif ckLits bk xs ys then some (Bl (eqB xs ys)) else none
    | .neq => bif ckLits bk xs ys then some (Bl (!eqB xs ys)) else none
    | _ => none
  | _, _ => none
def unA (op : UnOp) : AV → Option AV
  | .lit (.bool b) => match op with | .not => some (Bl (!b)) | _ => none
  | .lit (.int k n) => match op with | .neg => some (.lit (.int k (k.wrap (0 - n)))) | _ => none
  | _ => none
def bytesA : List (List AV) → Option (List UInt8)
  | [] => some []
  | [.lit (.int .u8 n)] :: r => (bytesA r).map fun l => UInt8.ofNat n.toNat :: l
  | _ => none
def cvtA (T : Nat → TD) (src dst : TD) (a : AV) : Option AV :=
  match src, dst, a with
  | .sc _, .sc (.int k _), .lit (.int _ n) => some (.lit (.int k (k.wrap n)))
  | .sc _, .sc (.string _), .lit (.string s) => some (Sg s)
  | .sl e k, .sc (.string _), .slc o k' xs =>
    match T e with
    | .sc (.int .u8 _) => bif Nat.beq k 1 && Nat.beq k' 1 && o.nu then (bytesA xs).map fun l => Sg ⟨l.toArray⟩ else none
    | _ => none
  | _, _, _ => none
def intOf? : AV → Option Int
  | .lit (.int _ n) => some n
  | _ => none
def intOr (d : Int) : Option AV → Option Int
  | none => some d
  | some a => intOf? a
def slA (k : Nat) (a : AV) (lo hi mx : Option AV) : Option AV :=
  match a with
  | .slc o k' xs => bif o.nu && Nat.beq k k' then
      (intOr 0 lo).bind fun l => (intOr xs.length hi).bind fun h =>
      match mx with
      | none => if 0 ≤ l ∧ l ≤ h ∧ h ≤ xs.length then some (AV.slc .shr k ((xs.take h.toNat).drop l.toNat)) else none
      | some m => (intOf? m).bind fun m => if 0 ≤ l ∧ l = h ∧ h = m ∧ m ≤ xs.length ∧ hi.isSome = true then some (.slc .own k []) else none
    else none
  | _ => none
def slT (a : AV) (lo hi mx : Option AV) : Option AV :=
  match a, mx with
  | .lit (.string s), none => (intOr 0 lo).bind fun l => (intOr s.size hi).bind fun h =>
      if 0 ≤ l ∧ l ≤ h ∧ h ≤ s.size then some (Sg (s.extract l.toNat h.toNat)) else none
  | _, _ => none
def ofOwns : Own → List (List AV) → List (List AV)
  | .own, ys => ys
  | _, ys => ys.map clrs
def appA (k by' : Nat) : AV → AV → Option AV
  | .slc .own k1 xs, .slc o k2 ys => bif o.nu && (Nat.beq k k1 && Nat.beq k k2) then (if (xs.length + ys.length) * by' ≤ 140737488355328 ∧ xs.length + ys.length ≤ 1152921504606846976 then some (.slc .own k (xs ++ ofOwns o ys)) else none) else none
  | _, _ => none
def appU (k by' : Nat) : AV → AV → Option AV
  | .slc .unq k1 xs, .slc o k2 ys => bif o.nu && (Nat.beq k k1 && Nat.beq k k2) then (if (xs.length + ys.length) * by' ≤ 140737488355328 ∧ xs.length + ys.length ≤ 1152921504606846976 then some (.slc .unq k (xs ++ ofOwns o ys)) else none) else none
  | _, _ => none
def minA : AV → AV → Option AV
  | .lit (.int k x), .lit (.int _ y) => some (.lit (.int k (if y < x then y else x)))
  | _, _ => none
def maxA : AV → AV → Option AV
  | .lit (.int k x), .lit (.int _ y) => some (.lit (.int k (if y > x then y else x)))
  | _, _ => none
def binK {β : Type} (bk : List Nat) (op : BinOp) (a b : AV) (K : AV → Option β) : Option β :=
  match op, a, b with
  | .quo, .lit (.int k x), .lit (.int k' y) => if k = k' then ifA (¬ y = 0) (K (.lit (.int k (k.wrap (x.tdiv y))))) else none
  | .rem, .lit (.int k x), .lit (.int k' y) => if k = k' then ifA (¬ y = 0) (K (.lit (.int k (x.tmod y)))) else none
  | .shl, .lit (.int k x), .lit (.int _ y) => ifA (¬ y < 0) (K (.lit (.int k (k.wrap (x * 2 ^ (min y.toNat k.bits))))))
  | .shr, .lit (.int k x), .lit (.int _ y) => ifA (¬ y < 0) (K (.lit (.int k (x.fdiv (2 ^ (min y.toNat k.bits))))))
  | .add, .lit (.string x), .lit (.string y) => ifA (x.size + y.size ≤ 1099511627776) (K (Sg (x ++ y)))
  | op, a, b => (binA bk op a b).bind K
theorem binK_eq {β : Type} (bk : List Nat) (op : BinOp) (a b : AV) (K : AV → Option β) : binK bk op a b K = (binA bk op a b).bind K := by
  unfold binK
  split
  · simp only [binA, binI, ifA]; split <;> (try split) <;> simp_all
  · simp only [binA, binI, ifA]; split <;> (try split) <;> simp_all
  · simp only [binA, ifA]; split <;> simp_all
  · simp only [binA, ifA]; split <;> simp_all
  · simp only [binA, binS, ifA]; split <;> simp_all
  · rfl
def appK {β : Type} (k by' : Nat) (a b : AV) (K : AV → Option β) : Option β :=
  match a, b with
  | .slc .own k1 xs, .slc o k2 ys => bif o.nu && (Nat.beq k k1 && Nat.beq k k2) then ifA ((xs.length + ys.length) * by' ≤ 140737488355328 ∧ xs.length + ys.length ≤ 1152921504606846976) (K (.slc .own k (xs ++ ofOwns o ys))) else none
  | _, _ => none
theorem appK_eq {β : Type} (k by' : Nat) (a b : AV) (K : AV → Option β) : appK k by' a b K = (appA k by' a b).bind K := by
  unfold appK appA
  split
  · rename_i k1 xs o k2 ys
    cases hk : o.nu && (Nat.beq k k1 && Nat.beq k k2) with
    | false => rfl
    | true => simp only [cond_true, ifA]; split <;> rfl
  · simp_all
def appUK {β : Type} (k by' : Nat) (a b : AV) (K : AV → Option β) : Option β :=
  match a, b with
  | .slc .unq k1 xs, .slc o k2 ys => bif o.nu && (Nat.beq k k1 && Nat.beq k k2) then ifA ((xs.length + ys.length) * by' ≤ 140737488355328 ∧ xs.length + ys.length ≤ 1152921504606846976) (K (.slc .unq k (xs ++ ofOwns o ys))) else none
  | _, _ => none
theorem appUK_eq {β : Type} (k by' : Nat) (a b : AV) (K : AV → Option β) : appUK k by' a b K = (appU k by' a b).bind K := by
  unfold appUK appU
  split
  · rename_i k1 xs o k2 ys
    cases hk : o.nu && (Nat.beq k k1 && Nat.beq k k2) with
    | false => rfl
    | true => simp only [cond_true, ifA]; split <;> rfl
  · simp_all
def slK {β : Type} (k : Nat) (a : AV) (lo hi mx : Option AV) (K : AV → Option β) : Option β :=
  match a, mx with
  | .slc o k' xs, none => bif o.nu && Nat.beq k k' then
      match intOr 0 lo, intOr xs.length hi with
      | some l, some h => ifA (0 ≤ l ∧ l ≤ h ∧ h ≤ xs.length) (K (.slc .shr k ((xs.take h.toNat).drop l.toNat)))
      | _, _ => none
    else none
  | a, mx => (slA k a lo hi mx).bind K
theorem slK_eq {β : Type} (k : Nat) (a : AV) (lo hi mx : Option AV) (K : AV → Option β) : slK k a lo hi mx K = (slA k a lo hi mx).bind K := by
  unfold slK
  split
  · rename_i o k' xs
    unfold slA
    simp only
    cases o.nu && Nat.beq k k' with
    | false => rfl
    | true =>
      simp only [cond_true]
      cases intOr 0 lo with
      | none => rfl
      | some l =>
        cases intOr (↑xs.length) hi with
        | none => rfl
        | some h => simp only [Option.bind_some, ifA]; split <;> rfl
  · rfl
def slTK {β : Type} (a : AV) (lo hi mx : Option AV) (K : AV → Option β) : Option β :=
  match a, mx with
  | .lit (.string s), none =>
      match intOr 0 lo, intOr s.size hi with
      | some l, some h => ifA (0 ≤ l ∧ l ≤ h ∧ h ≤ s.size) (K (Sg (s.extract l.toNat h.toNat)))
      | _, _ => none
  | _, _ => none
theorem slTK_eq {β : Type} (a : AV) (lo hi mx : Option AV) (K : AV → Option β) : slTK a lo hi mx K = (slT a lo hi mx).bind K := by
  unfold slTK slT
  split
  · rename_i s
    cases intOr 0 lo with
    | none => rfl
    | some l =>
      cases intOr (↑s.size) hi with
      | none => rfl
      | some h => simp only [Option.bind_some, ifA]; split <;> rfl
  · simp_all
def getb {β : Type} (s : ByteArray) (n : Int) (K : Int → Option β) : Option β :=
  if 0 ≤ n then (match s.data.toList[n.toNat]? with | some c => K c.toNat | none => none) else none
def ixTK {β : Type} (a i : AV) (K : AV → Option β) : Option β :=
  match a, i with
  | .lit (.string b), .lit (.int _ n) => getb b n fun c => K (.lit (.int .u8 c))
  | _, _ => none
theorem ixTK_eq {β : Type} (a i : AV) (K : AV → Option β) : ixTK a i K = (ixT a i).bind K := by
  unfold ixTK ixT getb
  split
  · rename_i b _ n
    simp only
    split
    · cases b.data.toList[n.toNat]? <;> rfl
    · rfl
  · simp_all
def bst {β : Type} (xs : List (List AV)) (K : ByteArray → Option β) : Option β := (bytesA xs).bind fun l => K ⟨l.toArray⟩
noncomputable def NN : Nat := Classical.choose (⟨_, rfl⟩ : ∃ n : Nat, n = 4611686018427387904)
theorem NN_eq : NN = 4611686018427387904 := Classical.choose_spec (⟨_, rfl⟩ : ∃ n : Nat, n = 4611686018427387904)
def cvtK {β : Type} (T : Nat → TD) (src dst : TD) (a : AV) (K : AV → Option β) : Option β :=
  match src, dst, a with
  | .sc _, .sc (.int k _), .lit (.int _ n) => K (.lit (.int k (k.wrap n)))
  | .sc _, .sc (.string _), .lit (.string s) => K (Sg s)
  | .sl e k, .sc (.string _), .slc o k' xs =>
    match T e with
    | .sc (.int .u8 _) => bif Nat.beq k 1 && Nat.beq k' 1 && o.nu then bst xs fun s => K (Sg s) else none
    | _ => none
  | _, _, _ => none
theorem cvtK_eq {β : Type} (T : Nat → TD) (src dst : TD) (a : AV) (K : AV → Option β) : cvtK T src dst a K = (cvtA T src dst a).bind K := by
  unfold cvtK cvtA
  split
  · rfl
  · rfl
  · rename_i e k b o k' xs
    split
    · cases hk : Nat.beq k 1 && Nat.beq k' 1 && o.nu with
      | false => rfl
      | true => simp only [cond_true, bst]; cases bytesA xs <;> rfl
    · rfl
  · simp_all
def setAt (r : List AV) (off : Nat) (cs : List AV) : List AV := r.take off ++ cs ++ r.drop (off + cs.length)
def fillA (offs : List (Nat × Nat)) (cs : List AV) : List (Nat × AV) → Option (List AV)
  | [] => some cs
  | (f, a) :: r =>
    match offs[f]? with
    | none => none
    | some (off, sz) => (cellsN sz a).bind fun as => if off + sz ≤ cs.length then fillA offs (setAt cs off as) r else none
def fillK {β : Type} (offs : List (Nat × Nat)) (cs : List AV) (ps : List (Nat × AV)) (K : List AV → Option β) : Option β := (fillA offs cs ps).bind K
def arOffs (k : Nat) : Nat → Nat → List (Nat × Nat)
  | _, 0 => []
  | o, n + 1 => (o, k) :: arOffs k (o + k) n
def rowsA (k : Nat) : Nat → List (Nat × AV) → Option (List (List AV))
  | _, [] => some []
  | i, (j, a) :: r => bif Nat.beq j i then (cellsN k a).bind fun cs => (rowsA k (i + 1) r).map (cs :: ·) else none
def setRows (rows : List (List AV)) (i : Nat) (f : List AV → List AV) : List (List AV) := rows.modify i f
def isNilC : Operand → Bool
  | .const (.slice none 0 0) => true
  | _ => false
def nilA : BinOp → AV → Option AV
  | .eql, .slc .shr _ xs => some (.nilq xs)
  | .eql, .slc .own _ xs => some (.nilq xs)
  | _, _ => none
section
variable {β : Type} (E : Ctx)
def rd (tk : Bool) (cf : Value → Option AV) (x : Operand) (s : St) (K : SV → St → Option β) : Option β :=
  match x with
  | .tmp n =>
    match s.env n with
    | .val a => bif tk then K (.val a) { s with env := upd s.env n (.val a.clr) } else K (.val a.clr) s
    | .no => none
    | p => K p s
  | .const v => (cf v).bind fun a => K (.val a) s
  | .func f => K (.val (.fn f [])) s
  | .global _ => none
def rd0 (x : Operand) (s : St) (K : AV → Option β) : Option β :=
  match x with
  | .tmp n => match s.env n with
    | .val a => K a
    | _ => none
  | .const v => match v with
    | .agg cs => bif cs.toList.all scal then K (.agg (cs.toList.map .lit)) else none
    | v => bif scal v then K (.lit v) else none
  | _ => none
def rdo (x : Option Operand) (s : St) (K : Option AV → Option β) : Option β :=
  match x with
  | none => K none
  | some x => rd0 x s fun a => K (some a)
def rdArgs (tk : Bool) : List Operand → List Nat → St → (List AV → St → Option β) → Option β
  | [], _, s, K => K [] s
  | x :: xs, ts, s, K =>
    rd tk (constA (E.T (ts.headD 0))) x s fun v s' =>
      match v with
      | .val a => rdArgs tk xs ts.tail s' fun as s'' => K ((bif tk then a else a.clr) :: as) s''
      | _ => none
def rdParts (tk : Bool) (cf : Nat → Value → Option AV) : List (Nat × Operand) → St → (List (Nat × AV) → St → Option β) → Option β
  | [], s, K => K [] s
  | (i, x) :: xs, s, K =>
    rd tk (cf i) x s fun v s' =>
      match v with
      | .val a => rdParts tk cf xs s' fun as s'' => K ((i, a) :: as) s''
      | _ => none
def rdCaps : List Operand → St → (List AV → St → Option β) → Option β
  | [], s, K => K [] s
  | .tmp n :: xs, s, K =>
    match s.env n with
    | .lp key 0 0 =>
      match s.L key with
      | some o =>
        match o.rows with
        | [cs] => rdCaps xs { s with L := upd s.L key (some { o with frz := true }) } fun as s' => K (.rp (clrs cs) :: as) s'
        | _ => none
      | none => none
    | .val (.rp cs) => rdCaps xs s fun as s' => K (.rp (clrs cs) :: as) s'
    | _ => none
  | _, _, _ => none
def newObj (dst : Option Nat) (o : LObj) (s : St) (K : Nat → St → Option β) : Option β :=
  match dst with
  | none => none
  | some d => match s.L d with
    | none => K d { s with L := upd s.L d (some o) }
    | some _ => none
def callP (f v : Nat) (args : List AV) (s : St) (K : SV → St → Option β) : Option β :=
  match E.C f v with
  | none => none
  | some en => bif args.all AV.ng then bnd (en.ps.get (args, []) en.S) fun r => match (en.rs.enc r).2 with
    | [] => K (.val (en.rs.enc r).1) s
    | _ => none
  else none
def callK (f v : Nat) (args : List AV) (s : St) (K : SV → St → Option β) : Option β :=
  bif E.gs f then (match E.C f v with
    | none => none
    | some en => bnd (en.ps.get (args, s.G) en.S) fun r => K (.val (en.rs.enc r).1) { s with G := (en.rs.enc r).2 })
  else callP E f v args s K
def asFn : AV → Option (Nat × List AV)
  | .fn f caps => some (f, caps)
  | _ => none
def loadK (d : TD) (mo : Bool) (p : SV) (s : St) (K : SV → St → Option β) : Option β :=
  match p with
  | .lp key i off =>
    match s.L key with
    | some o =>
      getn (E.ro key) o.rows i fun p => mkK d (((E.ro key).enc p).drop off) fun a =>
        bif mo then K (.val a) { s with L := upd s.L key (some { o with rows := o.rows.set i (clrs ((E.ro key).enc p)) }) } else K (.val a.clr) s
    | none => none
  | .val (.gp id off) => match s.G[id]? with
    | some r => mkK d (r.drop off) fun a => K (.val a.clr) s
    | none => none
  | .val (.rp cs) => mkK d cs fun a => K (.val (bif mo then a else a.clr)) s
  | _ => none
def nolv (key : Nat) (f : Nat → SV) : Nat → SV := fun t => match f t with
  | .lv k i off ag => bif Nat.beq k key then .no else .lv k i off ag
  | x => x
def storeK (d : TD) (p : SV) (a : AV) (s : St) (K : SV → St → Option β) : Option β :=
  match p with
  | .lp key i off =>
    match s.L key with
    | some o =>
      bif o.frz then none else
      getn (E.ro key) o.rows i fun p => (cellsN d.size a).bind fun cs => if off + d.size ≤ ((E.ro key).enc p).length then
          K .no { s with env := nolv key s.env, L := upd s.L key (some { o with rows := o.rows.set i (setAt ((E.ro key).enc p) off cs) }) } else none
    | none => none
  | .val (.gp id off) => match s.G[id]? with
    | some r => (cellsN d.size a).bind fun cs => if off + d.size ≤ r.length then
        K .no { s with G := setRows s.G id fun r => setAt r off cs } else none
    | none => none
  | _ => none
def builtinK (b : Builtin) (args : List Operand) (tys : List Nat) (tk : Bool) (s : St) (K : SV → St → Option β) : Option β :=
  match b, args, tys with
  | .len, [x], t :: _ =>
    match E.T t with
    | .sl _ _ => match x with
      | .tmp n => match s.env n with
        | .val a => (lenV a).bind fun r => K (.val r) s
        | .la key => match s.L key with
          | some o => K (.val (I o.rows.length)) s
          | none => none
        | _ => none
      | _ => none
    | .sc (.string _) => rd0 x s fun a => (lenT a).bind fun r => K (.val r) s
    | _ => none
  | .append, [x, y], [t, t'] =>
    bif !(Nat.beq t t') then none else match E.T t with
    | .sl e k => rd true (constA (E.T t)) x s fun a s1 => rd tk (constA (E.T t)) y s1 fun b s2 =>
      match a, b with
      | .val a, .val b => appK k (byA (E.T e)) a b fun r => K (.val r) s2
      | _, _ => none
    | _ => none
  | .min, [x, y], _ => rd0 x s fun a => rd0 y s fun b => (minA a b).bind fun r => K (.val r) s
  | .max, [x, y], _ => rd0 x s fun a => rd0 y s fun b => (maxA a b).bind fun r => K (.val r) s
  | _, _, _ => none
def opK (tk mo : Bool) (vr : Nat) (o : Oper) (s : St) (K : SV → St → Option β) : Option β :=
  match o.op with
  | .move x => rd tk (constA (E.T o.type)) x s K
  | .assign x => rd tk (constA (E.T o.type)) x s K
  | .pick c a b => rd0 c s fun c => condA c (rd tk (constA (E.T o.type)) a s K) (rd tk (constA (E.T o.type)) b s K)
  | .alloc t => bif !(E.T t).ok then none else newObj o.dst ⟨false, (E.T t).size, [(E.T t).zero]⟩ s fun d s' => K (.lp d 0 0) s'
  | .box t x => bif !(E.T t).ok then none else rd tk (constA (E.T t)) x s fun v s1 =>
    match v with
    | .val a => (cellsN (E.T t).size a).bind fun cs => newObj o.dst ⟨false, (E.T t).size, [cs]⟩ s1 fun d s' => K (.lp d 0 0) s'
    | _ => none
  | .build t parts =>
    match E.T t with
    | .st cz offs => rdParts tk (fun i => constP cz offs[i]?) parts.toList s fun ps s' => fillK offs (czA cz) ps fun cs => K (.val (.agg cs)) s'
    | .ar n k cz => rdParts tk (fun i => constP cz (arOffs k 0 n)[i]?) parts.toList s fun ps s' => fillK (arOffs k 0 n) (czA cz) ps fun cs => K (.val (.agg cs)) s'
    | _ => none
  | .buildSlice t n parts =>
    match E.T t with
    | .sl e k => bif Nat.beq n 0 && parts.toList.isEmpty then K (.val (.slc .own k [])) s else bif !(Nat.ble (n * k) 16777216) then none else rdParts tk (fun _ => constA (E.T e)) parts.toList s fun ps s' => (rowsA k 0 ps).bind fun rows => bif Nat.beq rows.length n && Nat.blt 0 n then K (.val (.slc .own k rows)) s' else none
    | _ => none
  | .load t x => bif !(E.T t).ok then none else rd mo (fun _ => none) x s fun p s' => loadK E (E.T t) mo p s' K
  | .store t x v => bif !(E.T t).ok then none else rd tk (constA (E.T t)) v s fun v s1 =>
    match v with
    | .val a => rd false (fun _ => none) x s1 fun p s2 => storeK E (E.T t) p a s2 K
    | _ => none
  | .nilCheck x => rd false (fun _ => none) x s fun p s' =>
    match p with
    | .lp k i off => K (.lp k i off) s'
    | .val (.gp i off) => K (.val (.gp i off)) s'
    | .val (.rp cs) => K (.val (.rp cs)) s'
    | _ => none
  | .binOp op t x y _ => bif isNilC y then (match E.T t with
      | .sl _ _ => rd0 x s fun a => (nilA op a).bind fun r => K (.val r) s
      | _ => none)
    else rd0 x s fun a => rd0 y s fun b => binK (E.T t).bk op a b fun r => K (.val r) s
  | .unOp op _ x => rd0 x s fun a => (unA op a).bind fun r => K (.val r) s
  | .convert src dst x => rd0 x s fun a => cvtK E.T (E.T src) (E.T dst) a fun r => K (.val r) s
  | .makeFunc (.func f) first captured => bif first.isEmpty then rdCaps captured.toList s fun cs s' => K (.val (.fn f cs)) s' else none
  | .makeSlice t l c =>
    match E.T t with
    | .sl e k => rd0 l s fun l => rd0 c s fun c =>
      match l, c with
      | .lit (.int _ n), .lit (.int _ m) => ifA (0 ≤ n ∧ n = m ∧ n * byA (E.T e) ≤ 140737488355328 ∧ n ≤ 1152921504606846976)
          (newObj o.dst ⟨false, k, List.replicate n.toNat (E.T e).zero⟩ s fun d s' => K (.la d) s')
      | _, _ => none
    | _ => none
  | .slice t x lo hi mx =>
    rdo lo s fun lo => rdo hi s fun hi => rdo mx s fun mx => rd0 x s fun a =>
      match E.T t with
      | .sl _ k => slK k a lo hi mx fun r => K (.val r) s
      | .sc (.string _) => slTK a lo hi mx fun r => K (.val r) s
      | _ => none
  | .fieldAddr t x f =>
    match E.T t with
    | .st _ offs => match offs[f]? with
      | some (off, _) => rd tk (fun _ => none) x s fun p s' =>
        match p with
        | .lp key i o => K (.lp key i (o + off)) s'
        | .val a => (fldP off a).bind fun r => K (.val r) s'
        | _ => none
      | none => none
    | _ => none
  | .indexAddr t x i =>
    match E.T t with
    | .sl e k => rd0 i s fun i => rd tk (constA (E.T t)) x s fun p s' =>
      match p with
      | .la key => match s.L key with
        | some o => bif Nat.beq o.k k then match i with
          | .lit (.int _ n) => ifA (0 ≤ n ∧ n < o.rows.length) (K (.lp key n.toNat 0) s')
          | _ => none
          else none
        | none => none
      | .val a => ixK (E.R e) k a i fun r => K (.val r) s'
      | _ => none
    | .ar n k _ => rd0 i s fun i => rd false (fun _ => none) x s fun p s' =>
      match p with
      | .lp key 0 off => match i with
        | .lit (.int _ j) => ifA (0 ≤ j ∧ j < n) (K (.lp key 0 (off + j.toNat * k)) s')
        | _ => none
      | _ => none
    | _ => none
  | .index t x i =>
    match E.T t with
    | .sc (.string _) => rd0 i s fun i => rd0 x s fun a => ixTK a i fun c => K (.val c) s
    | _ => none
  | .field t (.tmp n) f =>
    match E.T t with
    | .st _ offs => match offs[f]? with
      | some (off, sz) => match s.env n with
        | .val (.agg cs) => bif Nat.blt 1 sz then ifA (off + sz ≤ cs.length) (K (.val (.agg (clrs ((cs.drop off).take sz)))) s) else match cs[off]? with
          | some a => K (.val a.clr) s
          | none => none
        | _ => none
      | none => none
    | _ => none
  | .extract (.tmp n) i =>
    match s.env n with
    | .val (.tup vs) => match vs[i]? with
      | some a => bif tk then K (.val a) { s with env := upd s.env n (.val (.tup (vs.modify i AV.clr))) } else K (.val a.clr) s
      | none => none
    | _ => none
  | .call c =>
    match c.callee with
    | .builtin b => builtinK E b c.args.toList c.argTypes.toList tk s K
    | .value (.func f) => rdArgs E tk c.args.toList c.argTypes.toList s fun as s' => callK E f vr as s' K
    | .value (.tmp n) =>
      match s.env n with
      | .val a => (asFn a).bind fun fc => rdArgs E tk c.args.toList c.argTypes.toList s fun as s' => callP E fc.1 vr (as ++ clrs fc.2) s' K
      | _ => none
    | _ => none
  | _ => none
end
def TD.ag (d : TD) : Ag := bif d.isAgg then .st d.size else .hd
section
variable {β : Type} (E : Ctx)
def lensK (d : TD) (p : SV) (s : St) (K : SV → St → Option β) : Option β :=
  match p with
  | .lp key i off =>
    match s.L key with
    | some o => getn (E.ro key) o.rows i fun p => mkK d (((E.ro key).enc p).drop off) fun _ => K (.lv key i off d.ag) s
    | none => none
  | _ => none
def litA : AV → Bool
  | .lit _ => true
  | _ => false
def AV.lits : AV → Bool
  | .lit _ => true
  | .agg cs => cs.all litA
  | _ => false
def agEq : Ag → Ag → Bool
  | .hd, .hd => true
  | .st a, .st b => Nat.beq a b
  | _, _ => false
def storeL (d : TD) (key i off e k m o2 : Nat) (a : AV) (s : St) (K : SV → St → Option β) : Option β :=
  bif !a.lits then none else match s.L key with
  | some ob => bif ob.frz then none else getn (E.ro key) ob.rows i fun p => hdK (((E.ro key).enc p).drop off) fun c => match c with
    | .slc .unq k' xs => bif Nat.beq k k' then getn (E.R e) xs m fun q => (cellsN d.size a).bind fun cs => if o2 + d.size ≤ ((E.R e).enc q).length then
        K .no { s with L := upd s.L key (some { ob with rows := ob.rows.set i (setAt ((E.ro key).enc p) off [.slc .unq k (xs.set m (setAt ((E.R e).enc q) o2 cs))]) }) } else none else none
    | _ => none
  | none => none
def loadF (d : TD) (key i off : Nat) (s : St) (K : AV → St → Option β) : Option β :=
  match s.L key with
  | some o => getn (E.ro key) o.rows i fun p => if off + d.size ≤ ((E.ro key).enc p).length then mkK d ((((E.ro key).enc p).drop off).take d.size) fun a =>
      K a { s with L := upd s.L key (some { o with rows := o.rows.set i (setAt ((E.ro key).enc p) off (clrs ((((E.ro key).enc p).drop off).take d.size))) }) } else none
  | none => none
def lendK (d : TD) (p : SV) (s : St) (K : AV → Option β) : Option β :=
  match p with
  | .val a => K a.clr
  | .la key => match s.L key with
    | some o => K (.slc .shr o.k (borss o.rows))
    | none => none
  | .lv key i off ag => bif agEq ag d.ag then
      match s.L key with
      | some o => getn (E.ro key) o.rows i fun p => mkK d (((E.ro key).enc p).drop off) fun a => K a.bor
      | none => none
    else none
  | _ => none
def lendV (d : TD) (key i off : Nat) (s : St) (K : AV → Option β) : Option β :=
  match s.L key with
  | some o => getn (E.ro key) o.rows i fun p => mkK d (((E.ro key).enc p).drop off) fun a => K a.bor
  | none => none
def lendArgs : List Operand → List Nat → St → (List AV → Option β) → Option β
  | [], _, _, K => K []
  | x :: xs, ts, s, K =>
    match x with
    | .tmp n => lendK E (E.T (ts.headD 0)) (s.env n) s fun a => lendArgs xs ts.tail s fun as => K (a :: as)
    | .const v => (constA (E.T (ts.headD 0)) v).bind fun a => lendArgs xs ts.tail s fun as => K (a.clr :: as)
    | _ => none
def callB (f v : Nat) (xs : List Operand) (ts : List Nat) (s : St) (K : SV → St → Option β) : Option β :=
  lendArgs E xs ts s fun as => match E.C f v with
    | none => none
    | some en => bif as.all AV.ng then bnd (en.ps.get (as, []) en.S) fun r => match (en.rs.enc r).2 with
      | [] => ifA ((en.rs.enc r).1.okU = true) (K (.val (en.rs.enc r).1.toU) s)
      | _ => none
    else none
def splitU {γ : Type} (r : AV × GS) (K : Value → AV → Option γ) : Option γ :=
  match r with
  | (.tup [.lit u, a], []) => K u a
  | _ => none
def callU (f v : Nat) (x y : Operand) (t : Nat) (s : St) (K : SV → St → Option β) : Option β :=
  rd0 y s fun b => match E.cu f v with
  | none => none
  | some en => bif !b.ng then none else match x with
    | .tmp n => match s.env n with
      | .la key => match s.L key with
        | some o => bif o.frz then none else
          bnd (en.ps.get ([.slc .unq o.k o.rows, b.clr], []) en.S) fun r => splitU (en.rs.enc r) fun u a => match a with
            | .slc .unq k rows => bif Nat.beq k o.k then K (.val (.lit u)) { s with env := nolv key s.env, L := upd s.L key (some { o with rows := rows }) } else none
            | _ => none
        | none => none
      | .lv key i off ag => bif !(agEq ag (E.T t).ag) then none else match s.L key with
        | some o => bif o.frz then none else
          getn (E.ro key) o.rows i fun p => mkK (E.T t) ((((E.ro key).enc p).drop off).take (E.T t).size) fun a0 => bif !a0.ng then none else
          bnd (en.ps.get ([a0, b.clr], []) en.S) fun r => splitU (en.rs.enc r) fun u a => (cellsN (E.T t).size a).bind fun cs => bif Nat.ble (off + (E.T t).size) ((E.ro key).enc p).length then
            K (.val (.lit u)) { s with L := upd s.L key (some { o with rows := o.rows.set i (setAt ((E.ro key).enc p) off cs) }) } else none
        | none => none
      | _ => none
    | _ => none
def callS (f v g : Nat) (x : Operand) (s : St) (K : SV → St → Option β) : Option β :=
  match E.cu f v with
  | none => none
  | some en => match x with
    | .tmp n => match s.env n with
      | .la key => match s.L key with
        | some o => bif o.frz then none else
          bnd (en.ps.get ([.slc .unq o.k o.rows, .fn g []], []) en.S) fun r => match en.rs.enc r with
          | (.tup [.tup [], .slc .unq k rows], []) => bif Nat.beq k o.k then K (.val (.tup [])) { s with env := nolv key s.env, L := upd s.L key (some { o with rows := rows }) } else none
          | _ => none
        | none => none
      | _ => none
    | _ => none
def unlens (n : Nat) (s : St) : Option St :=
  match s.env n with
  | .lv key 0 0 (.st m) => match s.L key with
    | some o => bif o.frz then none else match o.rows with
      | [row] => bif Nat.beq row.length m then some { s with env := upd s.env n (.val (.agg row)), L := upd s.L key (some { o with rows := [clrs row] }) } else none
      | _ => none
    | none => none
  | _ => none
def noKey (key : Nat) (f : Nat → SV) : Nat → SV := fun t => match f t with
  | .lp k i off => bif Nat.beq k key then .no else .lp k i off
  | .la k => bif Nat.beq k key then .no else .la k
  | .lv k i off ag => bif Nat.beq k key then .no else .lv k i off ag
  | x => x
def freezeN (n : Nat) (s : St) : Option St :=
  match s.env n with
  | .la key => match s.L key with
    | some ob => bif ob.frz then none else some { s with env := upd (noKey key s.env) n (.val (.slc .own ob.k (frzss ob.rows))), L := upd s.L key none }
    | none => none
  | .val _ => some s
  | _ => none
def untakeN (n : Nat) (s : St) : Option St :=
  match s.env n with
  | .la key => match s.L key with
    | some ob => bif ob.frz then none else some { s with env := upd (noKey key s.env) n (.val (.slc .unq ob.k ob.rows)), L := upd s.L key none }
    | none => none
  | .val _ => some s
  | _ => none
def thawN (n : Nat) (d : Option Nat) (s : St) : Option St :=
  match d, s.env n with
  | some d, .val (.slc .unq k rows) => match s.L d with
    | none => some { s with env := upd s.env n (.la d), L := upd s.L d (some ⟨false, k, rows⟩) }
    | some _ => none
  | _, .la _ => some s
  | _, _ => none
def rethawN (n : Nat) (d : Option Nat) (s : St) : Option St :=
  (match d with
  | some d' => match s.L d' with
    | none => some s
    | some _ => untakeN d' s
  | none => some s).bind fun s' => thawN n d s'
def rAv : RA := ⟨AV, id, fun a _ K => K a, fun a _ _ _ _ => ⟨a, Le.refl a, fun _ => rfl⟩⟩
def rawK : Nat → RR
  | 0 => rNil
  | 1 => rOne rAv
  | n + 2 => rCo rAv (rawK (n + 1))
def opU (hb vr : Nat) (o : Oper) (s : St) (K : SV → St → Option β) : Option β :=
  match hb, o.op with
  | 1, .load t x => bif !(E.T t).ok then none else rd false (fun _ => none) x s fun p s' => lensK E (E.T t) p s' K
  | 1, .box t (.tmp n) => bif !(E.T t).ok then none else rd true (constA (E.T t)) (.tmp n) s fun v s1 =>
    match v with
    | .val (.agg cs) => bif Nat.beq cs.length (E.T t).size then newObj o.dst ⟨false, (E.T t).size, [cs]⟩ s1 fun d s' => K (.lp d 0 0) { s' with env := upd s'.env n (.lv d 0 0 (.st (E.T t).size)) } else none
    | _ => none
  | 2, .call c => match c.callee with
    | .value (.func f) => bif E.gs f then none else callB E f vr c.args.toList c.argTypes.toList s K
    | _ => none
  | 3, .call c => match c.callee with
    | .value (.func f) => match c.args.toList, c.argTypes.toList with
      | [x, y], t :: _ => callU E f vr x y t s K
      | _, _ => none
    | _ => none
  | 4, .assign x => rd true (constA (E.T o.type)) x s fun v s1 =>
    match v with
    | .val (.slc .unq k xs) => K (.val (.slc .own k xs)) s1
    | _ => none
  | 7, .call c => match c.callee, c.args.toList, c.argTypes.toList with
    | .builtin .len, [.tmp n], t :: _ => match E.T t with
      | .sl _ _ => lendK E (E.T t) (s.env n) s fun a => (lenV a).bind fun l => K (.val l) s
      | _ => none
    | _, _, _ => none
  | 8, .indexAddr t (.tmp n) x => match E.T t with
    | .sl e k => rd0 x s fun iv => match s.env n, iv with
      | .lv key i off .hd, .lit (.int ik m) => lendK E (E.T t) (.lv key i off .hd) s fun a => ixK (E.R e) k a (.lit (.int ik m)) fun _ => K (.lv key i off (.el e k m.toNat 0)) s
      | _, _ => none
    | _ => none
  | 9, .fieldAddr t (.tmp n) f => match E.T t with
    | .st _ offs => match offs[f]? with
      | some (fo, _) => match s.env n with
        | .lv key i off (.el e k m o) => K (.lv key i off (.el e k m (o + fo))) s
        | _ => none
      | none => none
    | _ => none
  | 10, .load t (.tmp n) => bif !(E.T t).ok then none else match s.env n with
    | .lv key i off (.el e k m o2) => lendV E (.sl e k) key i off s fun a => ixK (E.R e) k a (.lit (.int .i64 (m : Int))) fun p => match p with
      | .rp cs => mkK (E.T t) (cs.drop o2) fun b => bif b.lits then K (.val b) s else none
      | _ => none
    | _ => none
  | 11, .store t (.tmp n) v => bif !(E.T t).ok then none else rd0 v s fun a => match s.env n with
    | .lv key i off (.el e k m o2) => storeL E (E.T t) key i off e k m o2 a s K
    | _ => none
  | 12, .load t (.tmp n) => bif !(E.T t).ok then none else match s.env n with
    | .lp key i off => loadF E (E.T t) key i off s fun a s2 => K (.val a.frz) s2
    | _ => none
  | 16, .assign (.const _) => K .no s
  | 17, .buildSlice t n parts => match E.T t with
    | .sl _ k => bif Nat.beq n 0 && parts.toList.isEmpty then K (.val (.slc .unq k [])) s else none
    | _ => none
  | 18, .call c => match c.callee, c.args.toList, c.argTypes.toList with
    | .builtin .append, [x, y], [t, t'] => bif !(Nat.beq t t') then none else match E.T t with
      | .sl e k => rd true (constA (E.T t)) x s fun a s1 => rd (Nat.beq vr 1) (constA (E.T t)) y s1 fun b s2 =>
        match a, b with
        | .val a, .val b => appUK k (byA (E.T e)) a b fun r => K (.val r) s2
        | _, _ => none
      | _ => none
    | _, _, _ => none
  | 20, .move (.tmp n) => (thawN n o.dst s).bind fun s' => opK E false false vr o s' K
  | 20, .assign (.tmp n) => (rethawN n o.dst s).bind fun s' => opK E false false vr o s' K
  | 21, .call c => match c.callee, c.args.toList with
    | .value (.func f), [x, .func g] => callS E f vr g x s K
    | _, _ => none
  | 22, .move (.tmp n) => (freezeN n s).bind fun s' => opK E true false vr o s' K
  | 23, .move (.tmp n) => (untakeN n s).bind fun s' => opK E true false vr o s' K
  | 25, .store _ (.tmp q) _ => match s.env q with
    | .lp key _ _ => match s.L key with
      | some ob => opK { E with ro := fun _ => rawK ob.k } true false vr o s K
      | none => none
    | _ => none
  | 6, .store _ _ (.tmp n) => (unlens n s).bind fun s' => opK E true false vr o s' K
  | _, _ => none
def thawK (d : Option Nat) (v : SV) (s : St) (K : SV → St → Option β) : Option β :=
  match d, v with
  | some d, .val (.slc .unq k rows) => match s.L d with
    | none => K (.la d) { s with L := upd s.L d (some ⟨false, k, rows⟩) }
    | some _ => none
  | _, _ => none
end
def svA : SV → AV
  | .val a => a
  | _ => junk
def litB (b : Bool) : SV := .val (Bl b)
section
variable {β : Type} (E : Ctx)
def opM (id i : Nat) (o : Oper) (s : St) (K : SV → St → Option β) : Option β :=
  bif Nat.beq (E.hb id i) 0 then opK E (E.tk id i) (E.mo id i) (E.vr id i) o s K else opU E (E.hb id i) (E.vr id i) o s K
def opR0 (id i : Nat) (o : Oper) (s : St) (K : SV → St → Option β) : Option β :=
  match E.rt id i with
  | none => opM E id i o s K
  | some A => opM E id i o s fun v s' => match v with
    | .val a => A.get a fun x => K (.val (A.enc x)) s'
    | _ => none
def opR (id i : Nat) (o : Oper) (s : St) (K : SV → St → Option β) : Option β :=
  bif E.th id i then opR0 E id i o s fun v s' => thawK o.dst v s' K else opR0 E id i o s K
def evalOp (id : Nat) (ops : Array Oper) (i : Nat) (o : Oper) (s : St) (K : St → Option β) : Option β :=
  match o.guard with
  | none => bif okE E.nt E.kp o.dst then opR E id i o s fun v s' => K (put s' o.dst v) else none
  | some (j, want) =>
    match (ops[j]?).bind (·.dst) with
    | none => none
    | some t => bif !okE E.nt E.kp o.dst then none else
      match s.env t with
      | .val (.tup []) => K (put s o.dst (.val junk))
      | _ => condA (svA (s.env t))
        (bif want then opR E id i o { s with env := upd s.env t (litB true) } fun v s' => K (put s' o.dst v)
         else K (put { s with env := upd s.env t (litB true) } o.dst (.val junk)))
        (bif want then K (put { s with env := upd s.env t (litB false) } o.dst (.val junk))
         else opR E id i o { s with env := upd s.env t (litB false) } fun v s' => K (put s' o.dst v))
def evalOps (id : Nat) (ops : Array Oper) : Nat → List Oper → St → (St → Option β) → Option β
  | _, [], s, K => K s
  | i, o :: rest, s, K => evalOp E id ops i o s fun s' => evalOps id ops (i + 1) rest s' K
end
def Live.packV (lv : Live) (s : St) : Option (List AV) := lv.vs.mapM fun t => match s.env t with
    | .val a => some a
    | _ => none
def Live.packO (lv : Live) (s : St) : Option (List (List (List AV))) := lv.ks.mapM fun (key, k, arr, frz) => match s.L key with
    | none => none
    | some o => bif Nat.beq o.k k && (o.frz == frz) && (arr || Nat.beq o.rows.length 1) then some o.rows else none
def Live.packP (lv : Live) (s : St) : Bool := lv.ps.all fun (t, key, arr) => (lv.ks.any fun q => Nat.beq q.1 key) && match s.env t with
    | .lp k 0 0 => Nat.beq k key && !arr
    | .la k => Nat.beq k key && arr
    | _ => false
def Live.packL (lv : Live) (s : St) : Bool := lv.ls.all fun (t, key, i, off) => (lv.ks.any fun q => Nat.beq q.1 key) && match s.env t with
    | .lv k i' off' .hd => Nat.beq k key && Nat.beq i' i && Nat.beq off' off
    | _ => false
def Live.pack (lv : Live) (s : St) : Option Pk :=
  bif lv.packP s && lv.packL s then (lv.packV s).bind fun vs => (lv.packO s).bind fun ks => some (vs, ks, s.G) else none
def Live.env (lv : Live) (v : List AV) (t : Nat) : SV :=
  match lv.vs.idxOf? t with
  | some i => .val (v.getD i junk)
  | none => match lv.ps.find? fun p => Nat.beq p.1 t with
    | some (_, key, arr) => bif arr then .la key else .lp key 0 0
    | none => match lv.ls.find? fun p => Nat.beq p.1 t with
      | some (_, key, i, off) => .lv key i off .hd
      | none => .no
def Live.obj (lv : Live) (v : List (List (List AV))) (key : Nat) : Option LObj :=
  match lv.ks.findIdx? fun p => Nat.beq p.1 key with
  | none => none
  | some i => match lv.ks[i]? with
    | none => none
    | some (_, k, _, frz) => some ⟨frz, k, v.getD i []⟩
def Live.unpack (lv : Live) (v : Pk) : St := ⟨lv.env v.1, lv.obj v.2.1, v.2.2⟩
def iter {V β : Type} (F : (V → Option β) → V → Option β) : Nat → V → Option β
  | 0, _ => none
  | n + 1, v => F (iter F n) v
def joinA {V β : Type} (J : V → Option β) (B : (V → Option β) → Option β) : Option β := B J
def firstR : Code → Option Nat
  | .region id _ _ => some id
  | .seq a b => match firstR a with | some i => some i | none => firstR b
  | .cond _ a b => match firstR a with | some i => some i | none => firstR b
  | .block _ c => firstR c
  | .loop c => firstR c
  | _ => none
def plainOp (E : Ctx) (o : Oper) : Bool :=
  match o.op with
  | .move _ | .assign _ | .pick .. | .load .. | .binOp .. | .unOp .. | .convert .. | .slice .. | .fieldAddr .. | .indexAddr .. | .index .. | .buildSlice .. | .build .. | .extract .. | .field .. | .nilCheck _ => true
  | .call c => match c.callee with
    | .builtin .len => true
    | .builtin .min => true
    | .builtin .max => true
    | .value (.func f) => !E.gs f
    | _ => false
  | _ => false
def lastOp (ops : Array Oper) (j : Nat) : Bool :=
  (List.range j).all fun i => ops.toList.zipIdx.any fun (p, m) => Nat.blt i m && Nat.ble m j && p.after.any fun e => Region.binds .any e && Nat.beq e.on i
def tmpL : Operand → List Nat
  | .tmp n => [n]
  | _ => []
def takeOf (tk : Bool) (o : Oper) : List Nat :=
  match o.guard, o.op with
    | none, .move (.tmp n) => bif tk then [n] else []
    | none, .assign (.tmp n) => bif tk then [n] else []
    | none, .build _ ps => bif tk then ps.toList.flatMap fun p => tmpL p.2 else []
    | none, .buildSlice _ _ ps => bif tk then ps.toList.flatMap fun p => tmpL p.2 else []
    | none, .call c => match c.callee, c.args.toList with
      | .builtin .append, [.tmp n, y] => n :: (bif tk then tmpL y else [])
      | _, _ => []
    | _, _ => []
def isTk (o : Oper) : Bool :=
  match o.guard, o.op with
    | none, .move (.tmp _) => true
    | none, .assign (.tmp _) => true
    | none, .build _ _ => true
    | none, .buildSlice _ _ _ => true
    | _, _ => false
def isApp (o : Oper) : Bool :=
  match o.guard, o.op with
    | none, .call c => match c.callee, c.args.toList with
      | .builtin .append, [.tmp _, _] => true
      | _, _ => false
    | _, _ => false
def plainM (hb : Nat) (o : Oper) : Bool :=
  match hb, o.op with
  | 0, _ => true
  | 1, .load .. => true
  | 2, _ => true
  | _, _ => false
def movable (E : Ctx) (id : Nat) (o : Oper) (j : Nat) : Bool := (plainOp E o && !E.mo id j && (!E.tk id j || (isTk o && Nat.beq (E.hb id j) 0)) && plainM (E.hb id j) o && !E.th id j) ||
  (isApp o && !E.mo id j && Nat.beq (E.hb id j) 0 && !E.th id j)
def isNew (E : Ctx) (id j : Nat) (o : Oper) : Bool :=
  Nat.beq (E.hb id j) 0 && !E.th id j && match o.guard, o.op with
  | none, .alloc _ => true
  | _, _ => false
def isSt (E : Ctx) (id j : Nat) (o : Oper) : Bool :=
  (Nat.beq (E.hb id j) 0 || Nat.beq (E.hb id j) 6) && !E.th id j && (E.rt id j).isNone && match o.guard, o.op, o.dst with
  | none, .store _ _ _, none => true
  | _, _, _ => false
def isGp : SV → Bool
  | .val (.gp _ _) => true
  | _ => false
def ldGp (o : Oper) (s : St) : Bool :=
  match o.op with
  | .load _ (.tmp n) => isGp (s.env n)
  | _ => false
def isGs (E : Ctx) (id j : Nat) (o : Oper) : Bool :=
  Nat.beq (E.hb id j) 0 && !E.th id j && !E.tk id j && (E.rt id j).isNone && match o.guard, o.op with
  | none, .call c => match c.callee with
    | .value (.func f) => E.gs f
    | _ => false
  | _, _ => false
def ntLd (o : Oper) : Bool :=
  match o.op with
  | .load .. => false
  | _ => true
def hasGs (E : Ctx) (ops : Array Oper) : Bool := ops.toList.any fun o => match o.op with
  | .call c => match c.callee with
    | .value (.func f) => E.gs f
    | _ => false
  | _ => false
def stEx (E : Ctx) (id i : Nat) (p o : Oper) : Bool :=
  Nat.beq (E.hb id i) 0 && !E.th id i && !E.tk id i && (E.rt id i).isNone && match p.guard, p.op, p.dst with
  | none, .extract (.tmp n) _, some d => o.op.operands.toList.all fun | .tmp t => !Nat.beq t n && !Nat.beq t d | _ => true
  | _, _, _ => false
def stExJ (E : Ctx) (id i j : Nat) (p o : Oper) : Bool := Nat.beq (E.hb id j) 0 && stEx E id i p o
def exT (E : Ctx) (id i : Nat) (p : Oper) : Option (Nat × Nat × Nat) :=
  bif Nat.beq (E.hb id i) 0 && !E.th id i && E.tk id i && (E.rt id i).isNone then match p.guard, p.op, p.dst with
  | none, .extract (.tmp n) k, some d => some (n, k, d)
  | _, _, _ => none else none
def exC (E : Ctx) (id i : Nat) (p : Oper) : Option (Nat × Nat × Nat) :=
  bif Nat.beq (E.hb id i) 0 && !E.th id i && !E.tk id i && (E.rt id i).isNone then match p.guard, p.op, p.dst with
  | none, .extract (.tmp n) k, some d => some (n, k, d)
  | _, _, _ => none else none
def exPair (E : Ctx) (id i j : Nat) (p o : Oper) : Bool :=
  match exT E id i p with
  | none => false
  | some (n, k, d) => match exC E id j o with
    | some (n', k', d') => (!Nat.beq n' n || !Nat.beq k' k) && (!Nat.beq d' d && (!Nat.beq d' n && !Nat.beq d n') && !Nat.beq d n)
    | none => isNew E id j o && (match o.dst with | some d' => !Nat.beq d' d && !Nat.beq d' n | none => false)
def leaves (ops : Array Oper) (l : List Nat) (o : Oper) : Bool :=
  l.all fun n => !(o.looksAt ops).any (Nat.beq n) && (match o.dst with | some d => !Nat.beq n d | none => true)
def forcedN (ops : Array Oper) : Nat → Oper → Nat → Bool
  | 0, o, i => o.after.any fun e => Region.binds .any e && Nat.beq e.on i
  | n + 1, o, i => o.after.any fun e => Region.binds .any e && (Nat.beq e.on i || match ops[e.on]? with
    | some p => forcedN ops n p i
    | none => false)
def forced (ops : Array Oper) (o : Oper) (i : Nat) : Bool := forcedN ops 3 o i
def accOf (o : Oper) : List (Nat × Bool) :=
  (match o.op with
    | .load _ (.tmp q) => [(q, true)]
    | _ => o.op.operands.toList.filterMap fun | .tmp t => some (t, false) | _ => none) ++ (match o.dst with | some d => [(d, false)] | none => [])
def plKind : Op → Bool
  | .move (.tmp _) => true
  | .fieldAddr _ (.tmp _) _ => true
  | .binOp .. => true
  | .build .. => true
  | .load _ (.tmp _) => true
  | _ => false
def isMv : Op → Bool
  | .move (.tmp _) => true
  | _ => false
def noTmp (l : List Operand) (n : Nat) : Bool := l.all fun | .tmp t => !Nat.beq t n | _ => true
def plSt (E : Ctx) (ops : Array Oper) (id i : Nat) (p o : Oper) : Bool :=
  Nat.beq (E.hb id i) 0 && !E.th id i && (!E.tk id i || isMv p.op) && !E.mo id i && (E.rt id i).isNone && p.guard.isNone && plKind p.op &&
  (match p.dst with | some d => noTmp o.op.operands.toList d && noTmp p.op.operands.toList d | none => false) &&
  (p.op.operands.toList.all fun | .tmp t => noTmp o.op.operands.toList t | _ => true) &&
  ops.toList.zipIdx.all fun (q, m) => !Nat.blt i m || (accOf p).all fun x => match q.dst with | some d => !Nat.beq d x.1 | none => true
def tmpOk (s : St) (k : Nat) (x : Nat × Bool) : Bool :=
  match s.env x.1 with
  | .lv _ _ _ _ => false
  | .lp k' _ _ => !x.2 || !Nat.beq k' k
  | .val _ => true
  | _ => !x.2
def pend (E : Ctx) (id : Nat) (ops : Array Oper) (j : Nat) (o : Oper) : List (Nat × Bool) :=
  ops.toList.zipIdx.flatMap fun (p, i) => bif Nat.blt i j && !(forced ops o i || stExJ E id i j p o) then accOf p else []
def stOk (s : St) (o : Oper) (l : List (Nat × Bool)) : Bool :=
  match o.op with
  | .store _ (.tmp t) _ => match s.env t with
    | .lp k _ _ => l.all (tmpOk s k)
    | _ => l.isEmpty
  | _ => l.isEmpty
def stOk6 (s : St) (o : Oper) (l : List (Nat × Bool)) : Bool :=
  match o.op with
  | .store _ _ (.tmp n) => match s.env n with
    | .lv k _ _ _ => l.all (tmpOk s k)
    | _ => false
  | _ => false
def stBad (E : Ctx) (id : Nat) (ops : Array Oper) (j : Nat) (o : Oper) (s : St) : Bool := isSt E id j o && !(lastOp ops j || (stOk s o (pend E id ops j o) && (Nat.beq (E.hb id j) 0 || stOk6 s o (pend E id ops j o))))
def clashFree (E : Ctx) (id : Nat) (ops : Array Oper) : Bool :=
  ops.toList.zipIdx.all fun (o, j) => o.after.all (fun e => !Region.binds .any e || Nat.blt e.on j) &&
    (lastOp ops j || ((movable E id o j || isNew E id j o || isSt E id j o || (isGs E id j o && hasGs E ops)) &&
    ops.toList.zipIdx.all fun (p, i) => !(Nat.blt i j) || (forced ops o i ||
      (exPair E id i j p o || (isGs E id i p && hasGs E ops && movable E id o j && Oper.apart ops p o && leaves ops (takeOf (E.tk id j) o) p) || movable E id p i && (bif isSt E id j o then ((stExJ E id i j p o || plSt E ops id i p o) && (!hasGs E ops || ntLd p)) else (Oper.apart ops p o && leaves ops (takeOf (E.tk id i) p) o && (isNew E id j o || leaves ops (takeOf (E.tk id j) o) p)))))))
noncomputable def evalG (E : Ctx) (id : Nat) (ops : Array Oper) (i : Nat) (o : Oper) {β : Type} (s : St) (K : St → Option β) : Option β := bif stBad E id ops i o s || hasGs E ops && ldGp o s then none else evalOp E id ops i o s K
noncomputable def evalD (E : Ctx) (id : Nat) (ops : Array Oper) {β : Type} : Nat → List Oper → St → (St → Option β) → Option β
  | _, [], s, K => K s
  | i, o :: rest, s, K => evalG E id ops i o s fun s' => evalD E id ops (i + 1) rest s' K
noncomputable def evalSeg (E : Ctx) (id : Nat) (ops : Array Oper) {β : Type} (K : St → Option β) : List (Nat × Live) → Nat → List Oper → St → Option β
  | [], i, l, s => evalOps E id ops i l s K
  | (m, lv) :: r, i, l, s => joinA (fun x => evalSeg E id ops K r (i + m) (l.drop m) (lv.unpack (lv.rt.enc x))) fun J => evalOps E id ops i (l.take m) s fun s' => (lv.pack s').bind fun v => lv.rt.get v J
noncomputable def evalR (E : Ctx) (id : Nat) (ops : Array Oper) (draw : Bool) {β : Type} (s : St) (K : St → Option β) : Option β := bif draw then evalD E id ops 0 ops.toList s K else evalSeg E id ops K (E.sg id) 0 ops.toList s
noncomputable def allK {β : Type} : List (Option β) → Option β
  | [] => none
  | [x] => x
  | x :: y :: r => bothK x (allK (y :: r))
def chk {γ : Type} (b : Bool) (x y : γ) : γ := bif b then x else y
def caseL {γ : Type} (l : List Nat) (a : γ) (b : Nat → List Nat → γ) : γ :=
  match l with
  | [] => a
  | i :: is => b i is
noncomputable def evalAny (E : Ctx) (id : Nat) (ops : Array Oper) {β : Type} : Nat → Array Bool → St → (St → Option β) → Option β
  | 0, listed, s, K => caseL (Region.ready .any ops listed) (K s) fun _ _ => none
  | fuel + 1, listed, s, K => caseL (Region.ready .any ops listed) (K s) fun i is => allK ((i :: is).map fun i => match ops[i]? with
      | none => none
      | some o => evalOp E id ops i o s fun s' => evalAny E id ops fuel (listed.setIfInBounds i true) s' K)
def plOf (E : Ctx) (c : Code) : Bool := match firstR c with | some i => E.pl i | none => false
def peelK {β : Type} (b : Bool) (s : St) (body : St → (St → Option β) → Option β) (L : St → Option β) : Option β := bif b then body s L else L s
noncomputable def evalK (E : Ctx) : Code → {β : Type} → St → (Ex → St → Option β) → Option β
  | .skip, _, s, K => K .nrm s
  | .region id ops draw, _, s, K => chk (!draw || clashFree E id ops)
      (match E.jr id with
      | none => evalR E id ops draw s (K .nrm)
      | some lv => joinA (fun x => K .nrm (lv.unpack (lv.rt.enc x))) fun J => evalR E id ops draw s fun s' => (lv.pack s').bind fun v => lv.rt.get v J)
      (bif E.ao id then (match E.jr id with
      | none => evalAny E id ops ops.size (Array.replicate ops.size false) s (K .nrm)
      | some lv => joinA (fun x => K .nrm (lv.unpack (lv.rt.enc x))) fun J => evalAny E id ops ops.size (Array.replicate ops.size false) s fun s' => (lv.pack s').bind fun v => lv.rt.get v J) else none)
  | .seq a b, _, s, K => evalK E a s fun e s' => match e with
    | .nrm => evalK E b s' K
    | e => K e s'
  | .cond c a b, _, s, K =>
    match c with
    | .tmp t =>
      match E.jn t with
      | none => condN (svA (s.env t)) (evalK E a { s with env := upd s.env t (litB true) } K) (evalK E b { s with env := upd s.env t (litB false) } K)
      | some lv => joinA (fun x => K .nrm (lv.unpack (lv.rt.enc x))) fun J =>
          condN (svA (s.env t))
            (evalK E a { s with env := upd s.env t (litB true) } fun e s' => match e with
              | .nrm => (lv.pack s').bind fun v => lv.rt.get v J
              | e => K e s')
            (evalK E b { s with env := upd s.env t (litB false) } fun e s' => match e with
              | .nrm => (lv.pack s').bind fun v => lv.rt.get v J
              | e => K e s')
    | _ => none
  | .block id c, _, s, K =>
    match E.jb id with
    | none => evalK E c s fun e s' => match e with
      | .ex i => bif Nat.beq i id then K .nrm s' else K (.ex i) s'
      | e => K e s'
    | some lv => joinA (fun x => K .nrm (lv.unpack (lv.rt.enc x))) fun J => evalK E c s fun e s' => match e with
      | .ex i => bif Nat.beq i id then (lv.pack s').bind fun v => lv.rt.get v J else K (.ex i) s'
      | .nrm => (lv.pack s').bind fun v => lv.rt.get v J
      | e => K e s'
  | .loop c, _, s, K =>
    match (firstR c).bind E.lv with
    | none => none
    | some lv => peelK (plOf E c) s (fun s K1 => evalK E c s fun e s' => match e with
          | .nrm => K1 s'
          | e => K e s') fun s => (lv.pack s).bind fun v => lv.rt.get v
        (iter (fun rec x => evalK E c (lv.unpack (lv.rt.enc x)) fun e s' => match e with
          | .nrm => (lv.pack s').bind fun v' => lv.rt.get v' rec
          | e => K e s') E.N)
  | .exit id, _, s, K => K (.ex id) s
  | .ret, _, s, K => K .ret s
  | _, _, _, _ => none
def resA (E : Ctx) : List ResultVar → St → Option (List AV × GS)
  | [], s => some ([], s.G)
  | .tmp t :: r, s =>
    match s.env t with
    | .val a => (resA E r { s with env := upd s.env t (.val a.clr) }).map fun x => (a :: x.1, x.2)
    | .la key => match s.L key, r with
      | some o, [] => bif o.frz then none else some ([.slc .own o.k o.rows], s.G)
      | _, _ => none
    | .lp key 0 0 => match s.L key, r with
      | some o, [] => match o.rows with
        | [cs] => bif o.frz then none else some ([.gp s.G.length 0], s.G ++ [cs])
        | _ => none
      | _, _ => none
    | _ => none
  | .cell t ty :: r, s =>
    match s.env t with
    | .lp key 0 0 => match s.L key with
      | some o => match o.rows with
        | [cs] => bif (E.T ty).ok then (mkA (E.T ty) cs).bind fun a => (resA E r { s with L := upd s.L key (some { o with rows := [clrs cs] }) }).map fun x => (a :: x.1, x.2) else none
        | _ => none
      | none => none
    | _ => none
def oneA : List AV → AV
  | [a] => a
  | l => .tup l
def trimG (g : GS) (x : List AV × GS) : GS := bif g.isEmpty && x.1.all AV.ng then [] else x.2
noncomputable def evalBody (E : Ctx) (fn : Func) (Q : RQ) (args : List AV) (g : GS) : Option Q.τ :=
  match fn.body with
  | none => none
  | some c => evalK E c ⟨fun t => match args[t]? with | some a => .val a | none => .no, fun _ => none, g⟩ fun e s => match e with
    | .ex _ => none
    | _ => (resA E fn.results.toList s).bind fun x => Q.get (oneA x.1, trimG g x) some
structure Hints where
  tk : List (Nat × Nat) := []
  mo : List (Nat × Nat) := []
  vr : List ((Nat × Nat) × Nat) := []
  ro : List (Nat × RR) := []
  rt : List ((Nat × Nat) × RA) := []
  hb : List ((Nat × Nat) × Nat) := []
  th : List (Nat × Nat) := []
  ao : List Nat := []
  pl : List Nat := []
  lv : List (Nat × Live) := []
  jn : List (Nat × Live) := []
  jb : List (Nat × Live) := []
  jr : List (Nat × Live) := []
  sg : List (Nat × List (Nat × Live)) := []
def memN : List Nat → Nat → Bool
  | [], _ => false
  | a :: r, x => Nat.beq a x || memN r x
def memP : List (Nat × Nat) → Nat → Nat → Bool
  | [], _, _ => false
  | (a, b) :: r, x, y => (Nat.beq a x && Nat.beq b y) || memP r x y
universe u
def getL {α : Type u} : List (Nat × α) → Nat → Option α
  | [], _ => none
  | (a, b) :: r, x => bif Nat.beq a x then some b else getL r x
def getP {α : Type u} : List ((Nat × Nat) × α) → Nat → Nat → Option α
  | [], _, _ => none
  | ((a, c), b) :: r, x, y => bif Nat.beq a x && Nat.beq c y then some b else getP r x y
def getV : List ((Nat × Nat) × Nat) → Nat → Nat → Nat
  | [], _, _ => 0
  | ((a, c), b) :: r, x, y => bif Nat.beq a x && Nat.beq c y then b else getV r x y
def getR : List (Nat × RR) → Nat → RR
  | [], _ => rAny
  | (a, b) :: r, x => bif Nat.beq a x then b else getR r x
def ctxOf (T : Nat → TD) (cs us : List ((Nat × Nat) × Entry)) (gs : Nat → Bool) (R : List (Nat × RR)) (h : Hints) (nt N : Nat) (kp : Bool := false) : Ctx :=
  ⟨T, getP cs, getV h.vr, gs, memP h.tk, memP h.mo, getR R, getR h.ro, getP h.rt, getV h.hb, memP h.th, getP us, getL h.lv, getL h.jn, getL h.jb, getL h.jr, nt, N, kp, memN h.ao, memN h.pl, fun i => (getL h.sg i).getD []⟩
end Go.Fx
