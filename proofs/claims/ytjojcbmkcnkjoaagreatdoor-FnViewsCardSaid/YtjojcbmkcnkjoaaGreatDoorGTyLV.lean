/- The typed views, and what is to be said of them once. -/
import Derived.Test.YtjojcbmkcnkjoaaGreatDoorGPuV
set_option linter.all false
namespace Go.Sh
open Go.Fx
attribute [simp] bnd_some cnd_tt cnd_ff rws_app
theorem rws_nil (R : RR) {β : Type} (K : List R.τ → Option β) : rws R [] K = K [] := rfl
attribute [simp] rws_nil
def Sm {α : Type} (l : List α) : Prop := l.length ≤ 1048576
@[simp] theorem rws_i {β : Type} (l : List Int) (K : List Int → Option β) : rws iR (l.map iR.enc) K = K l := rws_enc iR l K
@[simp] theorem geti_i {β : Type} (l : List Int) (n : Int) (K : Int → Option β) : geti iR (l.map iR.enc) n K = getZ l n K := geti_enc iR l n K
@[simp] theorem getn_i {β : Type} (l : List Int) (n : Nat) (K : Int → Option β) : getn iR (l.map iR.enc) n K = getN l n K := getn_enc iR l n K
@[simp] theorem len_i (l : List Int) : (l.map iR.enc).length = l.length := List.length_map _
@[simp] theorem take_i (l : List Int) (n : Nat) : (l.map iR.enc).take n = (l.take n).map iR.enc := List.map_take.symm
@[simp] theorem drop_i (l : List Int) (n : Nat) : (l.map iR.enc).drop n = (l.drop n).map iR.enc := List.map_drop.symm
@[simp] theorem toUss_i (l : List Int) : toUss (l.map iR.enc) = l.map iR.enc := toUss_map (fun _ => rfl) l
@[simp] theorem borss_i (l : List Int) : borss (l.map iR.enc) = l.map iR.enc := borss_map (fun _ => rfl) l
@[simp] theorem okUss_i (l : List Int) : okUss (l.map iR.enc) = true := okUss_map (fun _ => rfl) l
@[simp] theorem sete_i (l : List Int) (i : Nat) (v : Int) : (l.map iR.enc).set i [I v] = (l.set i v).map iR.enc := (List.map_set (f := iR.enc) (l := l) (i := i) (a := v)).symm
@[simp] theorem set_i {β : Type} (l : List Int) (i : Nat) (v : Int) (K : List Int → Option β) : rws iR ((l.map iR.enc).set i [I v]) K = K (l.set i v) := rws_set iR l i v K
@[simp] theorem rep_i {β : Type} (i : Nat) (v : Int) (K : List Int → Option β) : rws iR (List.replicate i [I v]) K = K (List.replicate i v) := rws_rep iR v i K
@[simp] theorem row_i {β : Type} (v : Int) (K : List Int → Option β) : rws iR [[I v]] K = K [v] := rfl
@[simp] theorem clrs_i (l : List Int) : (l.map iR.enc).map clrs = l.map iR.enc := List.map_map (f := iR.enc) (g := clrs) (l := l)
@[simp] theorem rws_y {β : Type} (l : List Int) (K : List Int → Option β) : rws yR (l.map yR.enc) K = K l := rws_enc yR l K
@[simp] theorem geti_y {β : Type} (l : List Int) (n : Int) (K : Int → Option β) : geti yR (l.map yR.enc) n K = getZ l n K := geti_enc yR l n K
@[simp] theorem getn_y {β : Type} (l : List Int) (n : Nat) (K : Int → Option β) : getn yR (l.map yR.enc) n K = getN l n K := getn_enc yR l n K
@[simp] theorem len_y (l : List Int) : (l.map yR.enc).length = l.length := List.length_map _
@[simp] theorem take_y (l : List Int) (n : Nat) : (l.map yR.enc).take n = (l.take n).map yR.enc := List.map_take.symm
@[simp] theorem drop_y (l : List Int) (n : Nat) : (l.map yR.enc).drop n = (l.drop n).map yR.enc := List.map_drop.symm
@[simp] theorem toUss_y (l : List Int) : toUss (l.map yR.enc) = l.map yR.enc := toUss_map (fun _ => rfl) l
@[simp] theorem borss_y (l : List Int) : borss (l.map yR.enc) = l.map yR.enc := borss_map (fun _ => rfl) l
@[simp] theorem okUss_y (l : List Int) : okUss (l.map yR.enc) = true := okUss_map (fun _ => rfl) l
@[simp] theorem sete_y (l : List Int) (i : Nat) (v : Int) : (l.map yR.enc).set i [.lit (.int .u8 v)] = (l.set i v).map yR.enc := (List.map_set (f := yR.enc) (l := l) (i := i) (a := v)).symm
@[simp] theorem set_y {β : Type} (l : List Int) (i : Nat) (v : Int) (K : List Int → Option β) : rws yR ((l.map yR.enc).set i [.lit (.int .u8 v)]) K = K (l.set i v) := rws_set yR l i v K
@[simp] theorem rep_y {β : Type} (i : Nat) (v : Int) (K : List Int → Option β) : rws yR (List.replicate i [.lit (.int .u8 v)]) K = K (List.replicate i v) := rws_rep yR v i K
@[simp] theorem row_y {β : Type} (v : Int) (K : List Int → Option β) : rws yR [[.lit (.int .u8 v)]] K = K [v] := rfl
@[simp] theorem clrs_y (l : List Int) : (l.map yR.enc).map clrs = l.map yR.enc := List.map_map (f := yR.enc) (g := clrs) (l := l)
@[simp] theorem rws_b {β : Type} (l : List Bool) (K : List Bool → Option β) : rws bR (l.map bR.enc) K = K l := rws_enc bR l K
@[simp] theorem geti_b {β : Type} (l : List Bool) (n : Int) (K : Bool → Option β) : geti bR (l.map bR.enc) n K = getZ l n K := geti_enc bR l n K
@[simp] theorem getn_b {β : Type} (l : List Bool) (n : Nat) (K : Bool → Option β) : getn bR (l.map bR.enc) n K = getN l n K := getn_enc bR l n K
@[simp] theorem len_b (l : List Bool) : (l.map bR.enc).length = l.length := List.length_map _
@[simp] theorem take_b (l : List Bool) (n : Nat) : (l.map bR.enc).take n = (l.take n).map bR.enc := List.map_take.symm
@[simp] theorem drop_b (l : List Bool) (n : Nat) : (l.map bR.enc).drop n = (l.drop n).map bR.enc := List.map_drop.symm
@[simp] theorem toUss_b (l : List Bool) : toUss (l.map bR.enc) = l.map bR.enc := toUss_map (fun _ => rfl) l
@[simp] theorem borss_b (l : List Bool) : borss (l.map bR.enc) = l.map bR.enc := borss_map (fun _ => rfl) l
@[simp] theorem okUss_b (l : List Bool) : okUss (l.map bR.enc) = true := okUss_map (fun _ => rfl) l
@[simp] theorem sete_b (l : List Bool) (i : Nat) (v : Bool) : (l.map bR.enc).set i [Bl v] = (l.set i v).map bR.enc := (List.map_set (f := bR.enc) (l := l) (i := i) (a := v)).symm
@[simp] theorem set_b {β : Type} (l : List Bool) (i : Nat) (v : Bool) (K : List Bool → Option β) : rws bR ((l.map bR.enc).set i [Bl v]) K = K (l.set i v) := rws_set bR l i v K
@[simp] theorem rep_b {β : Type} (i : Nat) (v : Bool) (K : List Bool → Option β) : rws bR (List.replicate i [Bl v]) K = K (List.replicate i v) := rws_rep bR v i K
@[simp] theorem row_b {β : Type} (v : Bool) (K : List Bool → Option β) : rws bR [[Bl v]] K = K [v] := rfl
@[simp] theorem clrs_b (l : List Bool) : (l.map bR.enc).map clrs = l.map bR.enc := List.map_map (f := bR.enc) (g := clrs) (l := l)
@[simp] theorem rws_s {β : Type} (l : List ByteArray) (K : List ByteArray → Option β) : rws sR (l.map sR.enc) K = K l := rws_enc sR l K
@[simp] theorem geti_s {β : Type} (l : List ByteArray) (n : Int) (K : ByteArray → Option β) : geti sR (l.map sR.enc) n K = getZ l n K := geti_enc sR l n K
@[simp] theorem getn_s {β : Type} (l : List ByteArray) (n : Nat) (K : ByteArray → Option β) : getn sR (l.map sR.enc) n K = getN l n K := getn_enc sR l n K
@[simp] theorem len_s (l : List ByteArray) : (l.map sR.enc).length = l.length := List.length_map _
@[simp] theorem take_s (l : List ByteArray) (n : Nat) : (l.map sR.enc).take n = (l.take n).map sR.enc := List.map_take.symm
@[simp] theorem drop_s (l : List ByteArray) (n : Nat) : (l.map sR.enc).drop n = (l.drop n).map sR.enc := List.map_drop.symm
@[simp] theorem toUss_s (l : List ByteArray) : toUss (l.map sR.enc) = l.map sR.enc := toUss_map (fun _ => rfl) l
@[simp] theorem borss_s (l : List ByteArray) : borss (l.map sR.enc) = l.map sR.enc := borss_map (fun _ => rfl) l
@[simp] theorem okUss_s (l : List ByteArray) : okUss (l.map sR.enc) = true := okUss_map (fun _ => rfl) l
@[simp] theorem sete_s (l : List ByteArray) (i : Nat) (v : ByteArray) : (l.map sR.enc).set i [Sg v] = (l.set i v).map sR.enc := (List.map_set (f := sR.enc) (l := l) (i := i) (a := v)).symm
@[simp] theorem set_s {β : Type} (l : List ByteArray) (i : Nat) (v : ByteArray) (K : List ByteArray → Option β) : rws sR ((l.map sR.enc).set i [Sg v]) K = K (l.set i v) := rws_set sR l i v K
@[simp] theorem rep_s {β : Type} (i : Nat) (v : ByteArray) (K : List ByteArray → Option β) : rws sR (List.replicate i [Sg v]) K = K (List.replicate i v) := rws_rep sR v i K
@[simp] theorem row_s {β : Type} (v : ByteArray) (K : List ByteArray → Option β) : rws sR [[Sg v]] K = K [v] := rfl
@[simp] theorem clrs_s (l : List ByteArray) : (l.map sR.enc).map clrs = l.map sR.enc := List.map_map (f := sR.enc) (g := clrs) (l := l)
theorem get_il {o0 p0 : Own} (h0 : okO o0 p0 = true) (v_l : List Int) {β : Type} (K : (List Int) → Option β) : (rOne (rX o0 1 iR)).get [.slc p0 1 (v_l.map iR.enc)] K = K v_l := by
  cases o0 <;> cases p0 <;> first | (exact rws_i _ _) | (exact rws_y _ _) | (simp [okO] at h0)
theorem genc_il {o0 p0 : Own} (h0 : okO o0 p0 = true) (v : (List Int)) {β : Type} (K : (List Int) → Option β) : (rOne (rX o0 1 iR)).get ((rOne (rX p0 1 iR)).enc v) K = K v := get_il h0 v K
theorem rws_il {o0 p0 : Own} (h0 : okO o0 p0 = true) {β : Type} (l : List (List Int)) (K : List (List Int) → Option β) : rws (rOne (rX o0 1 iR)) (l.map (rOne (rX p0 1 iR)).enc) K = K l := by
  have := rws_map (rOne (rX o0 1 iR)) (rOne (rX p0 1 iR)).enc (fun x : (List Int) => x) (fun x _ K => genc_il h0 x K) l K
  rw [this]; exact congrArg K (List.map_id l)
theorem geti_il {o0 p0 : Own} (h0 : okO o0 p0 = true) {β : Type} (l : List (List Int)) (i : Int) (K : (List Int) → Option β) : geti (rOne (rX o0 1 iR)) (l.map (rOne (rX p0 1 iR)).enc) i K = getZ l i K := geti_map (rOne (rX o0 1 iR)) (rOne (rX p0 1 iR)).enc (fun x : (List Int) => x) (fun x _ K => genc_il h0 x K) l i K
theorem getn_il {o0 p0 : Own} (h0 : okO o0 p0 = true) {β : Type} (l : List (List Int)) (i : Nat) (K : (List Int) → Option β) : getn (rOne (rX o0 1 iR)) (l.map (rOne (rX p0 1 iR)).enc) i K = getN l i K := getn_map (rOne (rX o0 1 iR)) (rOne (rX p0 1 iR)).enc (fun x : (List Int) => x) (fun x _ K => genc_il h0 x K) l i K
theorem set_il {o0 p0 : Own} {q0 : Own} (h0 : okO o0 p0 = true) (g0 : okO o0 q0 = true) {β : Type} (l : List (List Int)) (i : Nat) (v_l : List Int) (K : List (List Int) → Option β) : rws (rOne (rX o0 1 iR)) ((l.map (rOne (rX p0 1 iR)).enc).set i [.slc q0 1 (v_l.map iR.enc)]) K = K (l.set i v_l) := by
  have := rws_mset (rOne (rX o0 1 iR)) (rOne (rX p0 1 iR)).enc (fun x : (List Int) => x) (fun x _ K => genc_il h0 x K) [.slc q0 1 (v_l.map iR.enc)] v_l (fun K => get_il g0 _ K) l i K
  rw [this]; exact congrArg K (List.map_id _)
theorem row_il {o0 p0 : Own} (h0 : okO o0 p0 = true) (v_l : List Int) {β : Type} (K : List (List Int) → Option β) : rws (rOne (rX o0 1 iR)) [[.slc p0 1 (v_l.map iR.enc)]] K = K [v_l] := get_il h0 _  (fun y => K [y])
theorem rep_il {o0 p0 : Own} (h0 : okO o0 p0 = true) {β : Type} (m : Nat) (v_l : List Int) (K : List (List Int) → Option β) : rws (rOne (rX o0 1 iR)) (List.replicate m [.slc p0 1 (v_l.map iR.enc)]) K = K (List.replicate m v_l) := by
  have := rws_map (rOne (rX o0 1 iR)) (rOne (rX p0 1 iR)).enc (fun x : (List Int) => x) (fun x _ K => genc_il h0 x K) (List.replicate m v_l) K
  have e : (List.replicate m v_l).map (rOne (rX p0 1 iR)).enc = List.replicate m [.slc p0 1 (v_l.map iR.enc)] := List.map_replicate
  exact (congrArg (fun z => rws (rOne (rX o0 1 iR)) z K) e).symm.trans (this.trans (congrArg K (List.map_id _)))
@[simp] theorem len_il {p0 : Own} (l : List (List Int)) : (l.map (rOne (rX p0 1 iR)).enc).length = l.length := List.length_map _
@[simp] theorem take_il {p0 : Own} (l : List (List Int)) (n : Nat) : (l.map (rOne (rX p0 1 iR)).enc).take n = (l.take n).map (rOne (rX p0 1 iR)).enc := List.map_take.symm
@[simp] theorem drop_il {p0 : Own} (l : List (List Int)) (n : Nat) : (l.map (rOne (rX p0 1 iR)).enc).drop n = (l.drop n).map (rOne (rX p0 1 iR)).enc := List.map_drop.symm
@[simp] theorem toUss_il (l : List (List Int)) : toUss (l.map (rOne (rX Own.own 1 iR)).enc) = l.map (rOne (rX Own.unq 1 iR)).enc := toUss_map (fun x => by show toUs [.slc Own.own 1 (x.map iR.enc)] = [.slc Own.unq 1 (x.map iR.enc)]; simp [toUs, AV.toU]) l
@[simp] theorem sete_il_uu (l : List (List Int)) (i : Nat) (v_l : List Int) : (l.map (rOne (rX Own.unq 1 iR)).enc).set i [.slc Own.unq 1 (v_l.map iR.enc)] = (l.set i v_l).map (rOne (rX Own.unq 1 iR)).enc := (List.map_set (f := (rOne (rX Own.unq 1 iR)).enc) (l := l) (i := i) (a := v_l)).symm
@[simp] theorem borss_il (l : List (List Int)) : borss (l.map (rOne (rX Own.unq 1 iR)).enc) = l.map (rOne (rX Own.shr 1 iR)).enc := borss_map (fun x => by show bors [.slc Own.unq 1 (x.map iR.enc)] = [.slc Own.shr 1 (x.map iR.enc)]; simp [bors, AV.bor]) l
@[simp] theorem okUss_il (l : List (List Int)) : okUss (l.map (rOne (rX Own.own 1 iR)).enc) = true := okUss_map (fun x => by show okUs [.slc Own.own 1 (x.map iR.enc)] = true; simp [okUs, AV.okU]) l
@[simp] theorem rws_il_ss {β : Type} (l : List (List Int)) (K : List (List Int) → Option β) : rws (rOne (rX Own.shr 1 iR)) (l.map (rOne (rX Own.shr 1 iR)).enc) K = K l := rws_il rfl l K
@[simp] theorem geti_il_ss {β : Type} (l : List (List Int)) (i : Int) (K : (List Int) → Option β) : geti (rOne (rX Own.shr 1 iR)) (l.map (rOne (rX Own.shr 1 iR)).enc) i K = getZ l i K := geti_il rfl l i K
@[simp] theorem getn_il_ss {β : Type} (l : List (List Int)) (i : Nat) (K : (List Int) → Option β) : getn (rOne (rX Own.shr 1 iR)) (l.map (rOne (rX Own.shr 1 iR)).enc) i K = getN l i K := getn_il rfl l i K
@[simp] theorem row_il_ss (v_l : List Int) {β : Type} (K : List (List Int) → Option β) : rws (rOne (rX Own.shr 1 iR)) [[.slc Own.shr 1 (v_l.map iR.enc)]] K = K [v_l] := row_il (o0 := .shr) (p0 := .shr) rfl v_l K
@[simp] theorem rep_il_ss (v_l : List Int) {β : Type} (m : Nat) (K : List (List Int) → Option β) : rws (rOne (rX Own.shr 1 iR)) (List.replicate m [.slc Own.shr 1 (v_l.map iR.enc)]) K = K (List.replicate m v_l) := rep_il (o0 := .shr) (p0 := .shr) rfl m v_l K
@[simp] theorem rowz_il_ss  {β : Type} (K : List (List Int) → Option β) : rws (rOne (rX Own.shr 1 iR)) [[.slc Own.shr 1 []]] K = K [[]] := row_il (o0 := .shr) (p0 := .shr) rfl [] K
@[simp] theorem repz_il_ss  {β : Type} (m : Nat) (K : List (List Int) → Option β) : rws (rOne (rX Own.shr 1 iR)) (List.replicate m [.slc Own.shr 1 []]) K = K (List.replicate m []) := rep_il (o0 := .shr) (p0 := .shr) rfl m [] K
@[simp] theorem set_il_sss {β : Type} (l : List (List Int)) (i : Nat) (v_l : List Int) (K : List (List Int) → Option β) : rws (rOne (rX Own.shr 1 iR)) ((l.map (rOne (rX Own.shr 1 iR)).enc).set i [.slc Own.shr 1 (v_l.map iR.enc)]) K = K (l.set i v_l) := set_il (o0 := .shr) (p0 := .shr) (q0 := .shr) rfl rfl l i v_l K
@[simp] theorem set_il_sso {β : Type} (l : List (List Int)) (i : Nat) (v_l : List Int) (K : List (List Int) → Option β) : rws (rOne (rX Own.shr 1 iR)) ((l.map (rOne (rX Own.shr 1 iR)).enc).set i [.slc Own.own 1 (v_l.map iR.enc)]) K = K (l.set i v_l) := set_il (o0 := .shr) (p0 := .shr) (q0 := .own) rfl rfl l i v_l K
@[simp] theorem rws_il_so {β : Type} (l : List (List Int)) (K : List (List Int) → Option β) : rws (rOne (rX Own.shr 1 iR)) (l.map (rOne (rX Own.own 1 iR)).enc) K = K l := rws_il rfl l K
@[simp] theorem geti_il_so {β : Type} (l : List (List Int)) (i : Int) (K : (List Int) → Option β) : geti (rOne (rX Own.shr 1 iR)) (l.map (rOne (rX Own.own 1 iR)).enc) i K = getZ l i K := geti_il rfl l i K
@[simp] theorem getn_il_so {β : Type} (l : List (List Int)) (i : Nat) (K : (List Int) → Option β) : getn (rOne (rX Own.shr 1 iR)) (l.map (rOne (rX Own.own 1 iR)).enc) i K = getN l i K := getn_il rfl l i K
@[simp] theorem row_il_so (v_l : List Int) {β : Type} (K : List (List Int) → Option β) : rws (rOne (rX Own.shr 1 iR)) [[.slc Own.own 1 (v_l.map iR.enc)]] K = K [v_l] := row_il (o0 := .shr) (p0 := .own) rfl v_l K
@[simp] theorem rep_il_so (v_l : List Int) {β : Type} (m : Nat) (K : List (List Int) → Option β) : rws (rOne (rX Own.shr 1 iR)) (List.replicate m [.slc Own.own 1 (v_l.map iR.enc)]) K = K (List.replicate m v_l) := rep_il (o0 := .shr) (p0 := .own) rfl m v_l K
@[simp] theorem rowz_il_so  {β : Type} (K : List (List Int) → Option β) : rws (rOne (rX Own.shr 1 iR)) [[.slc Own.own 1 []]] K = K [[]] := row_il (o0 := .shr) (p0 := .own) rfl [] K
@[simp] theorem repz_il_so  {β : Type} (m : Nat) (K : List (List Int) → Option β) : rws (rOne (rX Own.shr 1 iR)) (List.replicate m [.slc Own.own 1 []]) K = K (List.replicate m []) := rep_il (o0 := .shr) (p0 := .own) rfl m [] K
@[simp] theorem set_il_sos {β : Type} (l : List (List Int)) (i : Nat) (v_l : List Int) (K : List (List Int) → Option β) : rws (rOne (rX Own.shr 1 iR)) ((l.map (rOne (rX Own.own 1 iR)).enc).set i [.slc Own.shr 1 (v_l.map iR.enc)]) K = K (l.set i v_l) := set_il (o0 := .shr) (p0 := .own) (q0 := .shr) rfl rfl l i v_l K
@[simp] theorem set_il_soo {β : Type} (l : List (List Int)) (i : Nat) (v_l : List Int) (K : List (List Int) → Option β) : rws (rOne (rX Own.shr 1 iR)) ((l.map (rOne (rX Own.own 1 iR)).enc).set i [.slc Own.own 1 (v_l.map iR.enc)]) K = K (l.set i v_l) := set_il (o0 := .shr) (p0 := .own) (q0 := .own) rfl rfl l i v_l K
@[simp] theorem rws_il_oo {β : Type} (l : List (List Int)) (K : List (List Int) → Option β) : rws (rOne (rX Own.own 1 iR)) (l.map (rOne (rX Own.own 1 iR)).enc) K = K l := rws_il rfl l K
@[simp] theorem geti_il_oo {β : Type} (l : List (List Int)) (i : Int) (K : (List Int) → Option β) : geti (rOne (rX Own.own 1 iR)) (l.map (rOne (rX Own.own 1 iR)).enc) i K = getZ l i K := geti_il rfl l i K
@[simp] theorem getn_il_oo {β : Type} (l : List (List Int)) (i : Nat) (K : (List Int) → Option β) : getn (rOne (rX Own.own 1 iR)) (l.map (rOne (rX Own.own 1 iR)).enc) i K = getN l i K := getn_il rfl l i K
@[simp] theorem row_il_oo (v_l : List Int) {β : Type} (K : List (List Int) → Option β) : rws (rOne (rX Own.own 1 iR)) [[.slc Own.own 1 (v_l.map iR.enc)]] K = K [v_l] := row_il (o0 := .own) (p0 := .own) rfl v_l K
@[simp] theorem rep_il_oo (v_l : List Int) {β : Type} (m : Nat) (K : List (List Int) → Option β) : rws (rOne (rX Own.own 1 iR)) (List.replicate m [.slc Own.own 1 (v_l.map iR.enc)]) K = K (List.replicate m v_l) := rep_il (o0 := .own) (p0 := .own) rfl m v_l K
@[simp] theorem rowz_il_oo  {β : Type} (K : List (List Int) → Option β) : rws (rOne (rX Own.own 1 iR)) [[.slc Own.own 1 []]] K = K [[]] := row_il (o0 := .own) (p0 := .own) rfl [] K
@[simp] theorem repz_il_oo  {β : Type} (m : Nat) (K : List (List Int) → Option β) : rws (rOne (rX Own.own 1 iR)) (List.replicate m [.slc Own.own 1 []]) K = K (List.replicate m []) := rep_il (o0 := .own) (p0 := .own) rfl m [] K
@[simp] theorem set_il_ooo {β : Type} (l : List (List Int)) (i : Nat) (v_l : List Int) (K : List (List Int) → Option β) : rws (rOne (rX Own.own 1 iR)) ((l.map (rOne (rX Own.own 1 iR)).enc).set i [.slc Own.own 1 (v_l.map iR.enc)]) K = K (l.set i v_l) := set_il (o0 := .own) (p0 := .own) (q0 := .own) rfl rfl l i v_l K
@[simp] theorem rws_il_uu {β : Type} (l : List (List Int)) (K : List (List Int) → Option β) : rws (rOne (rX Own.unq 1 iR)) (l.map (rOne (rX Own.unq 1 iR)).enc) K = K l := rws_il rfl l K
@[simp] theorem geti_il_uu {β : Type} (l : List (List Int)) (i : Int) (K : (List Int) → Option β) : geti (rOne (rX Own.unq 1 iR)) (l.map (rOne (rX Own.unq 1 iR)).enc) i K = getZ l i K := geti_il rfl l i K
@[simp] theorem getn_il_uu {β : Type} (l : List (List Int)) (i : Nat) (K : (List Int) → Option β) : getn (rOne (rX Own.unq 1 iR)) (l.map (rOne (rX Own.unq 1 iR)).enc) i K = getN l i K := getn_il rfl l i K
@[simp] theorem row_il_uu (v_l : List Int) {β : Type} (K : List (List Int) → Option β) : rws (rOne (rX Own.unq 1 iR)) [[.slc Own.unq 1 (v_l.map iR.enc)]] K = K [v_l] := row_il (o0 := .unq) (p0 := .unq) rfl v_l K
@[simp] theorem rep_il_uu (v_l : List Int) {β : Type} (m : Nat) (K : List (List Int) → Option β) : rws (rOne (rX Own.unq 1 iR)) (List.replicate m [.slc Own.unq 1 (v_l.map iR.enc)]) K = K (List.replicate m v_l) := rep_il (o0 := .unq) (p0 := .unq) rfl m v_l K
@[simp] theorem rowz_il_uu  {β : Type} (K : List (List Int) → Option β) : rws (rOne (rX Own.unq 1 iR)) [[.slc Own.unq 1 []]] K = K [[]] := row_il (o0 := .unq) (p0 := .unq) rfl [] K
@[simp] theorem repz_il_uu  {β : Type} (m : Nat) (K : List (List Int) → Option β) : rws (rOne (rX Own.unq 1 iR)) (List.replicate m [.slc Own.unq 1 []]) K = K (List.replicate m []) := rep_il (o0 := .unq) (p0 := .unq) rfl m [] K
@[simp] theorem set_il_uuu {β : Type} (l : List (List Int)) (i : Nat) (v_l : List Int) (K : List (List Int) → Option β) : rws (rOne (rX Own.unq 1 iR)) ((l.map (rOne (rX Own.unq 1 iR)).enc).set i [.slc Own.unq 1 (v_l.map iR.enc)]) K = K (l.set i v_l) := set_il (o0 := .unq) (p0 := .unq) (q0 := .unq) rfl rfl l i v_l K
@[simp] theorem eta_Part (v : Part) : (⟨v.stage, v.green⟩ : Part) = v := rfl
theorem get_part {o0 p0 : Own} (h0 : okO o0 p0 = true) (v_stage : (List Int)) (v_green : Int) {β : Type} (K : Part → Option β) : (partR o0).get [.slc p0 1 (v_stage.map iR.enc), I v_green] K = K (⟨v_stage, v_green⟩ : Part) := by
  cases o0 <;> cases p0 <;> first | (exact rws_i _ _) | (exact rws_y _ _) | (simp [okO] at h0)
theorem genc_part {o0 p0 : Own} (h0 : okO o0 p0 = true) (v : Part) {β : Type} (K : Part → Option β) : (partR o0).get ((partR p0).enc v) K = K v := get_part h0 v.stage v.green K
theorem rws_part {o0 p0 : Own} (h0 : okO o0 p0 = true) {β : Type} (l : List Part) (K : List Part → Option β) : rws (partR o0) (l.map (partR p0).enc) K = K l := by
  have := rws_map (partR o0) (partR p0).enc (fun x : Part => x) (fun x _ K => genc_part h0 x K) l K
  rw [this]; exact congrArg K (List.map_id l)
theorem geti_part {o0 p0 : Own} (h0 : okO o0 p0 = true) {β : Type} (l : List Part) (i : Int) (K : Part → Option β) : geti (partR o0) (l.map (partR p0).enc) i K = getZ l i K := geti_map (partR o0) (partR p0).enc (fun x : Part => x) (fun x _ K => genc_part h0 x K) l i K
theorem getn_part {o0 p0 : Own} (h0 : okO o0 p0 = true) {β : Type} (l : List Part) (i : Nat) (K : Part → Option β) : getn (partR o0) (l.map (partR p0).enc) i K = getN l i K := getn_map (partR o0) (partR p0).enc (fun x : Part => x) (fun x _ K => genc_part h0 x K) l i K
theorem set_part {o0 p0 : Own} {q0 : Own} (h0 : okO o0 p0 = true) (g0 : okO o0 q0 = true) {β : Type} (l : List Part) (i : Nat) (v_stage : (List Int)) (v_green : Int) (K : List Part → Option β) : rws (partR o0) ((l.map (partR p0).enc).set i [.slc q0 1 (v_stage.map iR.enc), I v_green]) K = K (l.set i (⟨v_stage, v_green⟩ : Part)) := by
  have := rws_mset (partR o0) (partR p0).enc (fun x : Part => x) (fun x _ K => genc_part h0 x K) [.slc q0 1 (v_stage.map iR.enc), I v_green] (⟨v_stage, v_green⟩ : Part) (fun K => get_part g0 _ _ K) l i K
  rw [this]; exact congrArg K (List.map_id _)
theorem row_part {o0 p0 : Own} (h0 : okO o0 p0 = true) (v_stage : (List Int)) (v_green : Int) {β : Type} (K : List Part → Option β) : rws (partR o0) [[.slc p0 1 (v_stage.map iR.enc), I v_green]] K = K [(⟨v_stage, v_green⟩ : Part)] := get_part h0 _ _  (fun y => K [y])
theorem rep_part {o0 p0 : Own} (h0 : okO o0 p0 = true) {β : Type} (m : Nat) (v_stage : (List Int)) (v_green : Int) (K : List Part → Option β) : rws (partR o0) (List.replicate m [.slc p0 1 (v_stage.map iR.enc), I v_green]) K = K (List.replicate m (⟨v_stage, v_green⟩ : Part)) := by
  have := rws_map (partR o0) (partR p0).enc (fun x : Part => x) (fun x _ K => genc_part h0 x K) (List.replicate m (⟨v_stage, v_green⟩ : Part)) K
  have e : (List.replicate m (⟨v_stage, v_green⟩ : Part)).map (partR p0).enc = List.replicate m [.slc p0 1 (v_stage.map iR.enc), I v_green] := List.map_replicate
  exact (congrArg (fun z => rws (partR o0) z K) e).symm.trans (this.trans (congrArg K (List.map_id _)))
@[simp] theorem len_part {p0 : Own} (l : List Part) : (l.map (partR p0).enc).length = l.length := List.length_map _
@[simp] theorem take_part {p0 : Own} (l : List Part) (n : Nat) : (l.map (partR p0).enc).take n = (l.take n).map (partR p0).enc := List.map_take.symm
@[simp] theorem drop_part {p0 : Own} (l : List Part) (n : Nat) : (l.map (partR p0).enc).drop n = (l.drop n).map (partR p0).enc := List.map_drop.symm
@[simp] theorem toUss_part (l : List Part) : toUss (l.map (partR Own.own).enc) = l.map (partR Own.unq).enc := toUss_map (fun x => by show toUs [.slc Own.own 1 (x.stage.map iR.enc), I x.green] = [.slc Own.unq 1 (x.stage.map iR.enc), I x.green]; simp [toUs, AV.toU]) l
@[simp] theorem sete_part_uu (l : List Part) (i : Nat) (v_stage : (List Int)) (v_green : Int) : (l.map (partR Own.unq).enc).set i [.slc Own.unq 1 (v_stage.map iR.enc), I v_green] = (l.set i (⟨v_stage, v_green⟩ : Part)).map (partR Own.unq).enc := (List.map_set (f := (partR Own.unq).enc) (l := l) (i := i) (a := (⟨v_stage, v_green⟩ : Part))).symm
@[simp] theorem borss_part (l : List Part) : borss (l.map (partR Own.unq).enc) = l.map (partR Own.shr).enc := borss_map (fun x => by show bors [.slc Own.unq 1 (x.stage.map iR.enc), I x.green] = [.slc Own.shr 1 (x.stage.map iR.enc), I x.green]; simp [bors, AV.bor]) l
@[simp] theorem okUss_part (l : List Part) : okUss (l.map (partR Own.own).enc) = true := okUss_map (fun x => by show okUs [.slc Own.own 1 (x.stage.map iR.enc), I x.green] = true; simp [okUs, AV.okU]) l
@[simp] theorem rws_part_ss {β : Type} (l : List Part) (K : List Part → Option β) : rws (partR Own.shr) (l.map (partR Own.shr).enc) K = K l := rws_part rfl l K
@[simp] theorem geti_part_ss {β : Type} (l : List Part) (i : Int) (K : Part → Option β) : geti (partR Own.shr) (l.map (partR Own.shr).enc) i K = getZ l i K := geti_part rfl l i K
@[simp] theorem getn_part_ss {β : Type} (l : List Part) (i : Nat) (K : Part → Option β) : getn (partR Own.shr) (l.map (partR Own.shr).enc) i K = getN l i K := getn_part rfl l i K
@[simp] theorem row_part_ss (v_stage : (List Int)) (v_green : Int) {β : Type} (K : List Part → Option β) : rws (partR Own.shr) [[.slc Own.shr 1 (v_stage.map iR.enc), I v_green]] K = K [(⟨v_stage, v_green⟩ : Part)] := row_part (o0 := .shr) (p0 := .shr) rfl v_stage v_green K
@[simp] theorem rep_part_ss (v_stage : (List Int)) (v_green : Int) {β : Type} (m : Nat) (K : List Part → Option β) : rws (partR Own.shr) (List.replicate m [.slc Own.shr 1 (v_stage.map iR.enc), I v_green]) K = K (List.replicate m (⟨v_stage, v_green⟩ : Part)) := rep_part (o0 := .shr) (p0 := .shr) rfl m v_stage v_green K
@[simp] theorem rowz_part_ss (v_green : Int) {β : Type} (K : List Part → Option β) : rws (partR Own.shr) [[.slc Own.shr 1 [], I v_green]] K = K [(⟨[], v_green⟩ : Part)] := row_part (o0 := .shr) (p0 := .shr) rfl [] v_green K
@[simp] theorem repz_part_ss (v_green : Int) {β : Type} (m : Nat) (K : List Part → Option β) : rws (partR Own.shr) (List.replicate m [.slc Own.shr 1 [], I v_green]) K = K (List.replicate m (⟨[], v_green⟩ : Part)) := rep_part (o0 := .shr) (p0 := .shr) rfl m [] v_green K
@[simp] theorem set_part_sss {β : Type} (l : List Part) (i : Nat) (v_stage : (List Int)) (v_green : Int) (K : List Part → Option β) : rws (partR Own.shr) ((l.map (partR Own.shr).enc).set i [.slc Own.shr 1 (v_stage.map iR.enc), I v_green]) K = K (l.set i (⟨v_stage, v_green⟩ : Part)) := set_part (o0 := .shr) (p0 := .shr) (q0 := .shr) rfl rfl l i v_stage v_green K
@[simp] theorem set_part_sso {β : Type} (l : List Part) (i : Nat) (v_stage : (List Int)) (v_green : Int) (K : List Part → Option β) : rws (partR Own.shr) ((l.map (partR Own.shr).enc).set i [.slc Own.own 1 (v_stage.map iR.enc), I v_green]) K = K (l.set i (⟨v_stage, v_green⟩ : Part)) := set_part (o0 := .shr) (p0 := .shr) (q0 := .own) rfl rfl l i v_stage v_green K
@[simp] theorem rws_part_so {β : Type} (l : List Part) (K : List Part → Option β) : rws (partR Own.shr) (l.map (partR Own.own).enc) K = K l := rws_part rfl l K
@[simp] theorem geti_part_so {β : Type} (l : List Part) (i : Int) (K : Part → Option β) : geti (partR Own.shr) (l.map (partR Own.own).enc) i K = getZ l i K := geti_part rfl l i K
@[simp] theorem getn_part_so {β : Type} (l : List Part) (i : Nat) (K : Part → Option β) : getn (partR Own.shr) (l.map (partR Own.own).enc) i K = getN l i K := getn_part rfl l i K
@[simp] theorem row_part_so (v_stage : (List Int)) (v_green : Int) {β : Type} (K : List Part → Option β) : rws (partR Own.shr) [[.slc Own.own 1 (v_stage.map iR.enc), I v_green]] K = K [(⟨v_stage, v_green⟩ : Part)] := row_part (o0 := .shr) (p0 := .own) rfl v_stage v_green K
@[simp] theorem rep_part_so (v_stage : (List Int)) (v_green : Int) {β : Type} (m : Nat) (K : List Part → Option β) : rws (partR Own.shr) (List.replicate m [.slc Own.own 1 (v_stage.map iR.enc), I v_green]) K = K (List.replicate m (⟨v_stage, v_green⟩ : Part)) := rep_part (o0 := .shr) (p0 := .own) rfl m v_stage v_green K
@[simp] theorem rowz_part_so (v_green : Int) {β : Type} (K : List Part → Option β) : rws (partR Own.shr) [[.slc Own.own 1 [], I v_green]] K = K [(⟨[], v_green⟩ : Part)] := row_part (o0 := .shr) (p0 := .own) rfl [] v_green K
@[simp] theorem repz_part_so (v_green : Int) {β : Type} (m : Nat) (K : List Part → Option β) : rws (partR Own.shr) (List.replicate m [.slc Own.own 1 [], I v_green]) K = K (List.replicate m (⟨[], v_green⟩ : Part)) := rep_part (o0 := .shr) (p0 := .own) rfl m [] v_green K
@[simp] theorem set_part_sos {β : Type} (l : List Part) (i : Nat) (v_stage : (List Int)) (v_green : Int) (K : List Part → Option β) : rws (partR Own.shr) ((l.map (partR Own.own).enc).set i [.slc Own.shr 1 (v_stage.map iR.enc), I v_green]) K = K (l.set i (⟨v_stage, v_green⟩ : Part)) := set_part (o0 := .shr) (p0 := .own) (q0 := .shr) rfl rfl l i v_stage v_green K
@[simp] theorem set_part_soo {β : Type} (l : List Part) (i : Nat) (v_stage : (List Int)) (v_green : Int) (K : List Part → Option β) : rws (partR Own.shr) ((l.map (partR Own.own).enc).set i [.slc Own.own 1 (v_stage.map iR.enc), I v_green]) K = K (l.set i (⟨v_stage, v_green⟩ : Part)) := set_part (o0 := .shr) (p0 := .own) (q0 := .own) rfl rfl l i v_stage v_green K
@[simp] theorem rws_part_oo {β : Type} (l : List Part) (K : List Part → Option β) : rws (partR Own.own) (l.map (partR Own.own).enc) K = K l := rws_part rfl l K
@[simp] theorem geti_part_oo {β : Type} (l : List Part) (i : Int) (K : Part → Option β) : geti (partR Own.own) (l.map (partR Own.own).enc) i K = getZ l i K := geti_part rfl l i K
@[simp] theorem getn_part_oo {β : Type} (l : List Part) (i : Nat) (K : Part → Option β) : getn (partR Own.own) (l.map (partR Own.own).enc) i K = getN l i K := getn_part rfl l i K
@[simp] theorem row_part_oo (v_stage : (List Int)) (v_green : Int) {β : Type} (K : List Part → Option β) : rws (partR Own.own) [[.slc Own.own 1 (v_stage.map iR.enc), I v_green]] K = K [(⟨v_stage, v_green⟩ : Part)] := row_part (o0 := .own) (p0 := .own) rfl v_stage v_green K
@[simp] theorem rep_part_oo (v_stage : (List Int)) (v_green : Int) {β : Type} (m : Nat) (K : List Part → Option β) : rws (partR Own.own) (List.replicate m [.slc Own.own 1 (v_stage.map iR.enc), I v_green]) K = K (List.replicate m (⟨v_stage, v_green⟩ : Part)) := rep_part (o0 := .own) (p0 := .own) rfl m v_stage v_green K
@[simp] theorem rowz_part_oo (v_green : Int) {β : Type} (K : List Part → Option β) : rws (partR Own.own) [[.slc Own.own 1 [], I v_green]] K = K [(⟨[], v_green⟩ : Part)] := row_part (o0 := .own) (p0 := .own) rfl [] v_green K
@[simp] theorem repz_part_oo (v_green : Int) {β : Type} (m : Nat) (K : List Part → Option β) : rws (partR Own.own) (List.replicate m [.slc Own.own 1 [], I v_green]) K = K (List.replicate m (⟨[], v_green⟩ : Part)) := rep_part (o0 := .own) (p0 := .own) rfl m [] v_green K
@[simp] theorem set_part_ooo {β : Type} (l : List Part) (i : Nat) (v_stage : (List Int)) (v_green : Int) (K : List Part → Option β) : rws (partR Own.own) ((l.map (partR Own.own).enc).set i [.slc Own.own 1 (v_stage.map iR.enc), I v_green]) K = K (l.set i (⟨v_stage, v_green⟩ : Part)) := set_part (o0 := .own) (p0 := .own) (q0 := .own) rfl rfl l i v_stage v_green K
@[simp] theorem rws_part_uu {β : Type} (l : List Part) (K : List Part → Option β) : rws (partR Own.unq) (l.map (partR Own.unq).enc) K = K l := rws_part rfl l K
@[simp] theorem geti_part_uu {β : Type} (l : List Part) (i : Int) (K : Part → Option β) : geti (partR Own.unq) (l.map (partR Own.unq).enc) i K = getZ l i K := geti_part rfl l i K
@[simp] theorem getn_part_uu {β : Type} (l : List Part) (i : Nat) (K : Part → Option β) : getn (partR Own.unq) (l.map (partR Own.unq).enc) i K = getN l i K := getn_part rfl l i K
@[simp] theorem row_part_uu (v_stage : (List Int)) (v_green : Int) {β : Type} (K : List Part → Option β) : rws (partR Own.unq) [[.slc Own.unq 1 (v_stage.map iR.enc), I v_green]] K = K [(⟨v_stage, v_green⟩ : Part)] := row_part (o0 := .unq) (p0 := .unq) rfl v_stage v_green K
@[simp] theorem rep_part_uu (v_stage : (List Int)) (v_green : Int) {β : Type} (m : Nat) (K : List Part → Option β) : rws (partR Own.unq) (List.replicate m [.slc Own.unq 1 (v_stage.map iR.enc), I v_green]) K = K (List.replicate m (⟨v_stage, v_green⟩ : Part)) := rep_part (o0 := .unq) (p0 := .unq) rfl m v_stage v_green K
@[simp] theorem rowz_part_uu (v_green : Int) {β : Type} (K : List Part → Option β) : rws (partR Own.unq) [[.slc Own.unq 1 [], I v_green]] K = K [(⟨[], v_green⟩ : Part)] := row_part (o0 := .unq) (p0 := .unq) rfl [] v_green K
@[simp] theorem repz_part_uu (v_green : Int) {β : Type} (m : Nat) (K : List Part → Option β) : rws (partR Own.unq) (List.replicate m [.slc Own.unq 1 [], I v_green]) K = K (List.replicate m (⟨[], v_green⟩ : Part)) := rep_part (o0 := .unq) (p0 := .unq) rfl m [] v_green K
@[simp] theorem set_part_uuu {β : Type} (l : List Part) (i : Nat) (v_stage : (List Int)) (v_green : Int) (K : List Part → Option β) : rws (partR Own.unq) ((l.map (partR Own.unq).enc).set i [.slc Own.unq 1 (v_stage.map iR.enc), I v_green]) K = K (l.set i (⟨v_stage, v_green⟩ : Part)) := set_part (o0 := .unq) (p0 := .unq) (q0 := .unq) rfl rfl l i v_stage v_green K
@[simp] theorem eta_Report (v : Report) : (⟨v.path, v.second, v.light, v.since, v.other⟩ : Report) = v := rfl
instance : Lw reportR := ⟨fun _ _ _ => rfl⟩
@[simp] theorem rws_report {β : Type} (l : List Report) (K : List Report → Option β) : rws reportR (l.map reportR.enc) K = K l := rws_enc reportR l K
@[simp] theorem geti_report {β : Type} (l : List Report) (n : Int) (K : Report → Option β) : geti reportR (l.map reportR.enc) n K = getZ l n K := geti_enc reportR l n K
@[simp] theorem getn_report {β : Type} (l : List Report) (n : Nat) (K : Report → Option β) : getn reportR (l.map reportR.enc) n K = getN l n K := getn_enc reportR l n K
@[simp] theorem len_report (l : List Report) : (l.map reportR.enc).length = l.length := List.length_map _
@[simp] theorem take_report (l : List Report) (n : Nat) : (l.map reportR.enc).take n = (l.take n).map reportR.enc := List.map_take.symm
@[simp] theorem drop_report (l : List Report) (n : Nat) : (l.map reportR.enc).drop n = (l.drop n).map reportR.enc := List.map_drop.symm
@[simp] theorem toUss_report (l : List Report) : toUss (l.map reportR.enc) = l.map reportR.enc := toUss_map (fun _ => rfl) l
@[simp] theorem borss_report (l : List Report) : borss (l.map reportR.enc) = l.map reportR.enc := borss_map (fun _ => rfl) l
@[simp] theorem okUss_report (l : List Report) : okUss (l.map reportR.enc) = true := okUss_map (fun _ => rfl) l
@[simp] theorem sete_report (l : List Report) (i : Nat) (v0 : Int) (v1 : Int) (v2 : Int) (v3 : Int) (v4 : Int) : (l.map reportR.enc).set i [I v0, I v1, I v2, I v3, I v4] = (l.set i (⟨v0, v1, v2, v3, v4⟩ : Report)).map reportR.enc := (List.map_set (f := reportR.enc) (l := l) (i := i) (a := (⟨v0, v1, v2, v3, v4⟩ : Report))).symm
@[simp] theorem set_report {β : Type} (l : List Report) (i : Nat) (v0 : Int) (v1 : Int) (v2 : Int) (v3 : Int) (v4 : Int) (K : List Report → Option β) : rws reportR ((l.map reportR.enc).set i [I v0, I v1, I v2, I v3, I v4]) K = K (l.set i (⟨v0, v1, v2, v3, v4⟩ : Report)) := rws_set reportR l i (⟨v0, v1, v2, v3, v4⟩ : Report) K
@[simp] theorem rep_report {β : Type} (i : Nat) (v0 : Int) (v1 : Int) (v2 : Int) (v3 : Int) (v4 : Int) (K : List Report → Option β) : rws reportR (List.replicate i [I v0, I v1, I v2, I v3, I v4]) K = K (List.replicate i (⟨v0, v1, v2, v3, v4⟩ : Report)) := rws_rep reportR (⟨v0, v1, v2, v3, v4⟩ : Report) i K
@[simp] theorem row_report {β : Type} (v0 : Int) (v1 : Int) (v2 : Int) (v3 : Int) (v4 : Int) (K : List Report → Option β) : rws reportR [[I v0, I v1, I v2, I v3, I v4]] K = K [(⟨v0, v1, v2, v3, v4⟩ : Report)] := rfl
@[simp] theorem clrs_report (l : List Report) : (l.map reportR.enc).map clrs = l.map reportR.enc := List.map_map (f := reportR.enc) (g := clrs) (l := l)
@[simp] theorem eta_Path (v : Path) : (⟨v.id, v.kind, v.src, v.dst⟩ : Path) = v := rfl
instance : Lw pathR := ⟨fun _ _ _ => rfl⟩
@[simp] theorem rws_path {β : Type} (l : List Path) (K : List Path → Option β) : rws pathR (l.map pathR.enc) K = K l := rws_enc pathR l K
@[simp] theorem geti_path {β : Type} (l : List Path) (n : Int) (K : Path → Option β) : geti pathR (l.map pathR.enc) n K = getZ l n K := geti_enc pathR l n K
@[simp] theorem getn_path {β : Type} (l : List Path) (n : Nat) (K : Path → Option β) : getn pathR (l.map pathR.enc) n K = getN l n K := getn_enc pathR l n K
@[simp] theorem len_path (l : List Path) : (l.map pathR.enc).length = l.length := List.length_map _
@[simp] theorem take_path (l : List Path) (n : Nat) : (l.map pathR.enc).take n = (l.take n).map pathR.enc := List.map_take.symm
@[simp] theorem drop_path (l : List Path) (n : Nat) : (l.map pathR.enc).drop n = (l.drop n).map pathR.enc := List.map_drop.symm
@[simp] theorem toUss_path (l : List Path) : toUss (l.map pathR.enc) = l.map pathR.enc := toUss_map (fun _ => rfl) l
@[simp] theorem borss_path (l : List Path) : borss (l.map pathR.enc) = l.map pathR.enc := borss_map (fun _ => rfl) l
@[simp] theorem okUss_path (l : List Path) : okUss (l.map pathR.enc) = true := okUss_map (fun _ => rfl) l
@[simp] theorem sete_path (l : List Path) (i : Nat) (v0 : Int) (v1 : Int) (v2 : Int) (v3 : Int) : (l.map pathR.enc).set i [I v0, I v1, I v2, I v3] = (l.set i (⟨v0, v1, v2, v3⟩ : Path)).map pathR.enc := (List.map_set (f := pathR.enc) (l := l) (i := i) (a := (⟨v0, v1, v2, v3⟩ : Path))).symm
@[simp] theorem set_path {β : Type} (l : List Path) (i : Nat) (v0 : Int) (v1 : Int) (v2 : Int) (v3 : Int) (K : List Path → Option β) : rws pathR ((l.map pathR.enc).set i [I v0, I v1, I v2, I v3]) K = K (l.set i (⟨v0, v1, v2, v3⟩ : Path)) := rws_set pathR l i (⟨v0, v1, v2, v3⟩ : Path) K
@[simp] theorem rep_path {β : Type} (i : Nat) (v0 : Int) (v1 : Int) (v2 : Int) (v3 : Int) (K : List Path → Option β) : rws pathR (List.replicate i [I v0, I v1, I v2, I v3]) K = K (List.replicate i (⟨v0, v1, v2, v3⟩ : Path)) := rws_rep pathR (⟨v0, v1, v2, v3⟩ : Path) i K
@[simp] theorem row_path {β : Type} (v0 : Int) (v1 : Int) (v2 : Int) (v3 : Int) (K : List Path → Option β) : rws pathR [[I v0, I v1, I v2, I v3]] K = K [(⟨v0, v1, v2, v3⟩ : Path)] := rfl
@[simp] theorem clrs_path (l : List Path) : (l.map pathR.enc).map clrs = l.map pathR.enc := List.map_map (f := pathR.enc) (g := clrs) (l := l)
@[simp] theorem eta_Control (v : Control) : (⟨v.stage, v.since, v.next, v.left⟩ : Control) = v := rfl
theorem get_control {o0 o1 p0 p1 : Own} (h0 : okO o0 p0 = true) (h1 : okO o1 p1 = true) (v_stage : (List Int)) (v_since : Int) (v_next : (List Int)) (v_left : Int) {β : Type} (K : Control → Option β) : (controlR o0 o1).get [.slc p0 1 (v_stage.map iR.enc), I v_since, .slc p1 1 (v_next.map iR.enc), I v_left] K = K (⟨v_stage, v_since, v_next, v_left⟩ : Control) := by
  cases o0 <;> cases p0 <;> cases o1 <;> cases p1 <;> first | (exact (rws_i _ _).trans (rws_i _ _)) | (exact rws_y _ _) | (simp [okO] at h0 h1)
@[simp] theorem len_control {p0 p1 : Own} (l : List Control) : (l.map (controlR p0 p1).enc).length = l.length := List.length_map _
@[simp] theorem take_control {p0 p1 : Own} (l : List Control) (n : Nat) : (l.map (controlR p0 p1).enc).take n = (l.take n).map (controlR p0 p1).enc := List.map_take.symm
@[simp] theorem drop_control {p0 p1 : Own} (l : List Control) (n : Nat) : (l.map (controlR p0 p1).enc).drop n = (l.drop n).map (controlR p0 p1).enc := List.map_drop.symm
@[simp] theorem eta_Want (v : Want) : (⟨v.path, v.wait⟩ : Want) = v := rfl
instance : Lw wantR := ⟨fun _ _ _ => rfl⟩
@[simp] theorem rws_want {β : Type} (l : List Want) (K : List Want → Option β) : rws wantR (l.map wantR.enc) K = K l := rws_enc wantR l K
@[simp] theorem geti_want {β : Type} (l : List Want) (n : Int) (K : Want → Option β) : geti wantR (l.map wantR.enc) n K = getZ l n K := geti_enc wantR l n K
@[simp] theorem getn_want {β : Type} (l : List Want) (n : Nat) (K : Want → Option β) : getn wantR (l.map wantR.enc) n K = getN l n K := getn_enc wantR l n K
@[simp] theorem len_want (l : List Want) : (l.map wantR.enc).length = l.length := List.length_map _
@[simp] theorem take_want (l : List Want) (n : Nat) : (l.map wantR.enc).take n = (l.take n).map wantR.enc := List.map_take.symm
@[simp] theorem drop_want (l : List Want) (n : Nat) : (l.map wantR.enc).drop n = (l.drop n).map wantR.enc := List.map_drop.symm
@[simp] theorem toUss_want (l : List Want) : toUss (l.map wantR.enc) = l.map wantR.enc := toUss_map (fun _ => rfl) l
@[simp] theorem borss_want (l : List Want) : borss (l.map wantR.enc) = l.map wantR.enc := borss_map (fun _ => rfl) l
@[simp] theorem okUss_want (l : List Want) : okUss (l.map wantR.enc) = true := okUss_map (fun _ => rfl) l
@[simp] theorem sete_want (l : List Want) (i : Nat) (v0 : Int) (v1 : Int) : (l.map wantR.enc).set i [I v0, I v1] = (l.set i (⟨v0, v1⟩ : Want)).map wantR.enc := (List.map_set (f := wantR.enc) (l := l) (i := i) (a := (⟨v0, v1⟩ : Want))).symm
@[simp] theorem set_want {β : Type} (l : List Want) (i : Nat) (v0 : Int) (v1 : Int) (K : List Want → Option β) : rws wantR ((l.map wantR.enc).set i [I v0, I v1]) K = K (l.set i (⟨v0, v1⟩ : Want)) := rws_set wantR l i (⟨v0, v1⟩ : Want) K
@[simp] theorem rep_want {β : Type} (i : Nat) (v0 : Int) (v1 : Int) (K : List Want → Option β) : rws wantR (List.replicate i [I v0, I v1]) K = K (List.replicate i (⟨v0, v1⟩ : Want)) := rws_rep wantR (⟨v0, v1⟩ : Want) i K
@[simp] theorem row_want {β : Type} (v0 : Int) (v1 : Int) (K : List Want → Option β) : rws wantR [[I v0, I v1]] K = K [(⟨v0, v1⟩ : Want)] := rfl
@[simp] theorem clrs_want (l : List Want) : (l.map wantR.enc).map clrs = l.map wantR.enc := List.map_map (f := wantR.enc) (g := clrs) (l := l)
@[simp] theorem eta_Prio (v : Prio) : (⟨v.path, v.left⟩ : Prio) = v := rfl
instance : Lw prioR := ⟨fun _ _ _ => rfl⟩
@[simp] theorem rws_prio {β : Type} (l : List Prio) (K : List Prio → Option β) : rws prioR (l.map prioR.enc) K = K l := rws_enc prioR l K
@[simp] theorem geti_prio {β : Type} (l : List Prio) (n : Int) (K : Prio → Option β) : geti prioR (l.map prioR.enc) n K = getZ l n K := geti_enc prioR l n K
@[simp] theorem getn_prio {β : Type} (l : List Prio) (n : Nat) (K : Prio → Option β) : getn prioR (l.map prioR.enc) n K = getN l n K := getn_enc prioR l n K
@[simp] theorem len_prio (l : List Prio) : (l.map prioR.enc).length = l.length := List.length_map _
@[simp] theorem take_prio (l : List Prio) (n : Nat) : (l.map prioR.enc).take n = (l.take n).map prioR.enc := List.map_take.symm
@[simp] theorem drop_prio (l : List Prio) (n : Nat) : (l.map prioR.enc).drop n = (l.drop n).map prioR.enc := List.map_drop.symm
@[simp] theorem toUss_prio (l : List Prio) : toUss (l.map prioR.enc) = l.map prioR.enc := toUss_map (fun _ => rfl) l
@[simp] theorem borss_prio (l : List Prio) : borss (l.map prioR.enc) = l.map prioR.enc := borss_map (fun _ => rfl) l
@[simp] theorem okUss_prio (l : List Prio) : okUss (l.map prioR.enc) = true := okUss_map (fun _ => rfl) l
@[simp] theorem sete_prio (l : List Prio) (i : Nat) (v0 : Int) (v1 : Int) : (l.map prioR.enc).set i [I v0, I v1] = (l.set i (⟨v0, v1⟩ : Prio)).map prioR.enc := (List.map_set (f := prioR.enc) (l := l) (i := i) (a := (⟨v0, v1⟩ : Prio))).symm
@[simp] theorem set_prio {β : Type} (l : List Prio) (i : Nat) (v0 : Int) (v1 : Int) (K : List Prio → Option β) : rws prioR ((l.map prioR.enc).set i [I v0, I v1]) K = K (l.set i (⟨v0, v1⟩ : Prio)) := rws_set prioR l i (⟨v0, v1⟩ : Prio) K
@[simp] theorem rep_prio {β : Type} (i : Nat) (v0 : Int) (v1 : Int) (K : List Prio → Option β) : rws prioR (List.replicate i [I v0, I v1]) K = K (List.replicate i (⟨v0, v1⟩ : Prio)) := rws_rep prioR (⟨v0, v1⟩ : Prio) i K
@[simp] theorem row_prio {β : Type} (v0 : Int) (v1 : Int) (K : List Prio → Option β) : rws prioR [[I v0, I v1]] K = K [(⟨v0, v1⟩ : Prio)] := rfl
@[simp] theorem clrs_prio (l : List Prio) : (l.map prioR.enc).map clrs = l.map prioR.enc := List.map_map (f := prioR.enc) (g := clrs) (l := l)
@[simp] theorem eta_Lamp (v : Lamp) : (⟨v.path, v.colour, v.broken⟩ : Lamp) = v := rfl
instance : Lw lampR := ⟨fun _ _ _ => rfl⟩
@[simp] theorem rws_lamp {β : Type} (l : List Lamp) (K : List Lamp → Option β) : rws lampR (l.map lampR.enc) K = K l := rws_enc lampR l K
@[simp] theorem geti_lamp {β : Type} (l : List Lamp) (n : Int) (K : Lamp → Option β) : geti lampR (l.map lampR.enc) n K = getZ l n K := geti_enc lampR l n K
@[simp] theorem getn_lamp {β : Type} (l : List Lamp) (n : Nat) (K : Lamp → Option β) : getn lampR (l.map lampR.enc) n K = getN l n K := getn_enc lampR l n K
@[simp] theorem len_lamp (l : List Lamp) : (l.map lampR.enc).length = l.length := List.length_map _
@[simp] theorem take_lamp (l : List Lamp) (n : Nat) : (l.map lampR.enc).take n = (l.take n).map lampR.enc := List.map_take.symm
@[simp] theorem drop_lamp (l : List Lamp) (n : Nat) : (l.map lampR.enc).drop n = (l.drop n).map lampR.enc := List.map_drop.symm
@[simp] theorem toUss_lamp (l : List Lamp) : toUss (l.map lampR.enc) = l.map lampR.enc := toUss_map (fun _ => rfl) l
@[simp] theorem borss_lamp (l : List Lamp) : borss (l.map lampR.enc) = l.map lampR.enc := borss_map (fun _ => rfl) l
@[simp] theorem okUss_lamp (l : List Lamp) : okUss (l.map lampR.enc) = true := okUss_map (fun _ => rfl) l
@[simp] theorem sete_lamp (l : List Lamp) (i : Nat) (v0 : Int) (v1 : Int) (v2 : Bool) : (l.map lampR.enc).set i [I v0, I v1, Bl v2] = (l.set i (⟨v0, v1, v2⟩ : Lamp)).map lampR.enc := (List.map_set (f := lampR.enc) (l := l) (i := i) (a := (⟨v0, v1, v2⟩ : Lamp))).symm
@[simp] theorem set_lamp {β : Type} (l : List Lamp) (i : Nat) (v0 : Int) (v1 : Int) (v2 : Bool) (K : List Lamp → Option β) : rws lampR ((l.map lampR.enc).set i [I v0, I v1, Bl v2]) K = K (l.set i (⟨v0, v1, v2⟩ : Lamp)) := rws_set lampR l i (⟨v0, v1, v2⟩ : Lamp) K
@[simp] theorem rep_lamp {β : Type} (i : Nat) (v0 : Int) (v1 : Int) (v2 : Bool) (K : List Lamp → Option β) : rws lampR (List.replicate i [I v0, I v1, Bl v2]) K = K (List.replicate i (⟨v0, v1, v2⟩ : Lamp)) := rws_rep lampR (⟨v0, v1, v2⟩ : Lamp) i K
@[simp] theorem row_lamp {β : Type} (v0 : Int) (v1 : Int) (v2 : Bool) (K : List Lamp → Option β) : rws lampR [[I v0, I v1, Bl v2]] K = K [(⟨v0, v1, v2⟩ : Lamp)] := rfl
@[simp] theorem clrs_lamp (l : List Lamp) : (l.map lampR.enc).map clrs = l.map lampR.enc := List.map_map (f := lampR.enc) (g := clrs) (l := l)
@[simp] theorem eta_Note (v : Note) : (⟨v.second, v.lights, v.sig⟩ : Note) = v := rfl
theorem get_note {o0 p0 : Own} (h0 : okO o0 p0 = true) (v_second : Int) (v_lights : (List Int)) (v_sig : Int) {β : Type} (K : Note → Option β) : (noteR o0).get [I v_second, .slc p0 1 (v_lights.map iR.enc), I v_sig] K = K (⟨v_second, v_lights, v_sig⟩ : Note) := by
  cases o0 <;> cases p0 <;> first | (exact rws_i _ _) | (exact rws_y _ _) | (simp [okO] at h0)
theorem genc_note {o0 p0 : Own} (h0 : okO o0 p0 = true) (v : Note) {β : Type} (K : Note → Option β) : (noteR o0).get ((noteR p0).enc v) K = K v := get_note h0 v.second v.lights v.sig K
theorem rws_note {o0 p0 : Own} (h0 : okO o0 p0 = true) {β : Type} (l : List Note) (K : List Note → Option β) : rws (noteR o0) (l.map (noteR p0).enc) K = K l := by
  have := rws_map (noteR o0) (noteR p0).enc (fun x : Note => x) (fun x _ K => genc_note h0 x K) l K
  rw [this]; exact congrArg K (List.map_id l)
theorem geti_note {o0 p0 : Own} (h0 : okO o0 p0 = true) {β : Type} (l : List Note) (i : Int) (K : Note → Option β) : geti (noteR o0) (l.map (noteR p0).enc) i K = getZ l i K := geti_map (noteR o0) (noteR p0).enc (fun x : Note => x) (fun x _ K => genc_note h0 x K) l i K
theorem getn_note {o0 p0 : Own} (h0 : okO o0 p0 = true) {β : Type} (l : List Note) (i : Nat) (K : Note → Option β) : getn (noteR o0) (l.map (noteR p0).enc) i K = getN l i K := getn_map (noteR o0) (noteR p0).enc (fun x : Note => x) (fun x _ K => genc_note h0 x K) l i K
theorem set_note {o0 p0 : Own} {q0 : Own} (h0 : okO o0 p0 = true) (g0 : okO o0 q0 = true) {β : Type} (l : List Note) (i : Nat) (v_second : Int) (v_lights : (List Int)) (v_sig : Int) (K : List Note → Option β) : rws (noteR o0) ((l.map (noteR p0).enc).set i [I v_second, .slc q0 1 (v_lights.map iR.enc), I v_sig]) K = K (l.set i (⟨v_second, v_lights, v_sig⟩ : Note)) := by
  have := rws_mset (noteR o0) (noteR p0).enc (fun x : Note => x) (fun x _ K => genc_note h0 x K) [I v_second, .slc q0 1 (v_lights.map iR.enc), I v_sig] (⟨v_second, v_lights, v_sig⟩ : Note) (fun K => get_note g0 _ _ _ K) l i K
  rw [this]; exact congrArg K (List.map_id _)
theorem row_note {o0 p0 : Own} (h0 : okO o0 p0 = true) (v_second : Int) (v_lights : (List Int)) (v_sig : Int) {β : Type} (K : List Note → Option β) : rws (noteR o0) [[I v_second, .slc p0 1 (v_lights.map iR.enc), I v_sig]] K = K [(⟨v_second, v_lights, v_sig⟩ : Note)] := get_note h0 _ _ _  (fun y => K [y])
theorem rep_note {o0 p0 : Own} (h0 : okO o0 p0 = true) {β : Type} (m : Nat) (v_second : Int) (v_lights : (List Int)) (v_sig : Int) (K : List Note → Option β) : rws (noteR o0) (List.replicate m [I v_second, .slc p0 1 (v_lights.map iR.enc), I v_sig]) K = K (List.replicate m (⟨v_second, v_lights, v_sig⟩ : Note)) := by
  have := rws_map (noteR o0) (noteR p0).enc (fun x : Note => x) (fun x _ K => genc_note h0 x K) (List.replicate m (⟨v_second, v_lights, v_sig⟩ : Note)) K
  have e : (List.replicate m (⟨v_second, v_lights, v_sig⟩ : Note)).map (noteR p0).enc = List.replicate m [I v_second, .slc p0 1 (v_lights.map iR.enc), I v_sig] := List.map_replicate
  exact (congrArg (fun z => rws (noteR o0) z K) e).symm.trans (this.trans (congrArg K (List.map_id _)))
@[simp] theorem len_note {p0 : Own} (l : List Note) : (l.map (noteR p0).enc).length = l.length := List.length_map _
@[simp] theorem take_note {p0 : Own} (l : List Note) (n : Nat) : (l.map (noteR p0).enc).take n = (l.take n).map (noteR p0).enc := List.map_take.symm
@[simp] theorem drop_note {p0 : Own} (l : List Note) (n : Nat) : (l.map (noteR p0).enc).drop n = (l.drop n).map (noteR p0).enc := List.map_drop.symm
@[simp] theorem toUss_note (l : List Note) : toUss (l.map (noteR Own.own).enc) = l.map (noteR Own.unq).enc := toUss_map (fun x => by show toUs [I x.second, .slc Own.own 1 (x.lights.map iR.enc), I x.sig] = [I x.second, .slc Own.unq 1 (x.lights.map iR.enc), I x.sig]; simp [toUs, AV.toU]) l
@[simp] theorem sete_note_uu (l : List Note) (i : Nat) (v_second : Int) (v_lights : (List Int)) (v_sig : Int) : (l.map (noteR Own.unq).enc).set i [I v_second, .slc Own.unq 1 (v_lights.map iR.enc), I v_sig] = (l.set i (⟨v_second, v_lights, v_sig⟩ : Note)).map (noteR Own.unq).enc := (List.map_set (f := (noteR Own.unq).enc) (l := l) (i := i) (a := (⟨v_second, v_lights, v_sig⟩ : Note))).symm
@[simp] theorem borss_note (l : List Note) : borss (l.map (noteR Own.unq).enc) = l.map (noteR Own.shr).enc := borss_map (fun x => by show bors [I x.second, .slc Own.unq 1 (x.lights.map iR.enc), I x.sig] = [I x.second, .slc Own.shr 1 (x.lights.map iR.enc), I x.sig]; simp [bors, AV.bor]) l
@[simp] theorem okUss_note (l : List Note) : okUss (l.map (noteR Own.own).enc) = true := okUss_map (fun x => by show okUs [I x.second, .slc Own.own 1 (x.lights.map iR.enc), I x.sig] = true; simp [okUs, AV.okU]) l
@[simp] theorem rws_note_ss {β : Type} (l : List Note) (K : List Note → Option β) : rws (noteR Own.shr) (l.map (noteR Own.shr).enc) K = K l := rws_note rfl l K
@[simp] theorem geti_note_ss {β : Type} (l : List Note) (i : Int) (K : Note → Option β) : geti (noteR Own.shr) (l.map (noteR Own.shr).enc) i K = getZ l i K := geti_note rfl l i K
@[simp] theorem getn_note_ss {β : Type} (l : List Note) (i : Nat) (K : Note → Option β) : getn (noteR Own.shr) (l.map (noteR Own.shr).enc) i K = getN l i K := getn_note rfl l i K
@[simp] theorem row_note_ss (v_second : Int) (v_lights : (List Int)) (v_sig : Int) {β : Type} (K : List Note → Option β) : rws (noteR Own.shr) [[I v_second, .slc Own.shr 1 (v_lights.map iR.enc), I v_sig]] K = K [(⟨v_second, v_lights, v_sig⟩ : Note)] := row_note (o0 := .shr) (p0 := .shr) rfl v_second v_lights v_sig K
@[simp] theorem rep_note_ss (v_second : Int) (v_lights : (List Int)) (v_sig : Int) {β : Type} (m : Nat) (K : List Note → Option β) : rws (noteR Own.shr) (List.replicate m [I v_second, .slc Own.shr 1 (v_lights.map iR.enc), I v_sig]) K = K (List.replicate m (⟨v_second, v_lights, v_sig⟩ : Note)) := rep_note (o0 := .shr) (p0 := .shr) rfl m v_second v_lights v_sig K
@[simp] theorem rowz_note_ss (v_second : Int) (v_sig : Int) {β : Type} (K : List Note → Option β) : rws (noteR Own.shr) [[I v_second, .slc Own.shr 1 [], I v_sig]] K = K [(⟨v_second, [], v_sig⟩ : Note)] := row_note (o0 := .shr) (p0 := .shr) rfl v_second [] v_sig K
@[simp] theorem repz_note_ss (v_second : Int) (v_sig : Int) {β : Type} (m : Nat) (K : List Note → Option β) : rws (noteR Own.shr) (List.replicate m [I v_second, .slc Own.shr 1 [], I v_sig]) K = K (List.replicate m (⟨v_second, [], v_sig⟩ : Note)) := rep_note (o0 := .shr) (p0 := .shr) rfl m v_second [] v_sig K
@[simp] theorem set_note_sss {β : Type} (l : List Note) (i : Nat) (v_second : Int) (v_lights : (List Int)) (v_sig : Int) (K : List Note → Option β) : rws (noteR Own.shr) ((l.map (noteR Own.shr).enc).set i [I v_second, .slc Own.shr 1 (v_lights.map iR.enc), I v_sig]) K = K (l.set i (⟨v_second, v_lights, v_sig⟩ : Note)) := set_note (o0 := .shr) (p0 := .shr) (q0 := .shr) rfl rfl l i v_second v_lights v_sig K
@[simp] theorem set_note_sso {β : Type} (l : List Note) (i : Nat) (v_second : Int) (v_lights : (List Int)) (v_sig : Int) (K : List Note → Option β) : rws (noteR Own.shr) ((l.map (noteR Own.shr).enc).set i [I v_second, .slc Own.own 1 (v_lights.map iR.enc), I v_sig]) K = K (l.set i (⟨v_second, v_lights, v_sig⟩ : Note)) := set_note (o0 := .shr) (p0 := .shr) (q0 := .own) rfl rfl l i v_second v_lights v_sig K
@[simp] theorem rws_note_so {β : Type} (l : List Note) (K : List Note → Option β) : rws (noteR Own.shr) (l.map (noteR Own.own).enc) K = K l := rws_note rfl l K
@[simp] theorem geti_note_so {β : Type} (l : List Note) (i : Int) (K : Note → Option β) : geti (noteR Own.shr) (l.map (noteR Own.own).enc) i K = getZ l i K := geti_note rfl l i K
@[simp] theorem getn_note_so {β : Type} (l : List Note) (i : Nat) (K : Note → Option β) : getn (noteR Own.shr) (l.map (noteR Own.own).enc) i K = getN l i K := getn_note rfl l i K
@[simp] theorem row_note_so (v_second : Int) (v_lights : (List Int)) (v_sig : Int) {β : Type} (K : List Note → Option β) : rws (noteR Own.shr) [[I v_second, .slc Own.own 1 (v_lights.map iR.enc), I v_sig]] K = K [(⟨v_second, v_lights, v_sig⟩ : Note)] := row_note (o0 := .shr) (p0 := .own) rfl v_second v_lights v_sig K
@[simp] theorem rep_note_so (v_second : Int) (v_lights : (List Int)) (v_sig : Int) {β : Type} (m : Nat) (K : List Note → Option β) : rws (noteR Own.shr) (List.replicate m [I v_second, .slc Own.own 1 (v_lights.map iR.enc), I v_sig]) K = K (List.replicate m (⟨v_second, v_lights, v_sig⟩ : Note)) := rep_note (o0 := .shr) (p0 := .own) rfl m v_second v_lights v_sig K
@[simp] theorem rowz_note_so (v_second : Int) (v_sig : Int) {β : Type} (K : List Note → Option β) : rws (noteR Own.shr) [[I v_second, .slc Own.own 1 [], I v_sig]] K = K [(⟨v_second, [], v_sig⟩ : Note)] := row_note (o0 := .shr) (p0 := .own) rfl v_second [] v_sig K
@[simp] theorem repz_note_so (v_second : Int) (v_sig : Int) {β : Type} (m : Nat) (K : List Note → Option β) : rws (noteR Own.shr) (List.replicate m [I v_second, .slc Own.own 1 [], I v_sig]) K = K (List.replicate m (⟨v_second, [], v_sig⟩ : Note)) := rep_note (o0 := .shr) (p0 := .own) rfl m v_second [] v_sig K
@[simp] theorem set_note_sos {β : Type} (l : List Note) (i : Nat) (v_second : Int) (v_lights : (List Int)) (v_sig : Int) (K : List Note → Option β) : rws (noteR Own.shr) ((l.map (noteR Own.own).enc).set i [I v_second, .slc Own.shr 1 (v_lights.map iR.enc), I v_sig]) K = K (l.set i (⟨v_second, v_lights, v_sig⟩ : Note)) := set_note (o0 := .shr) (p0 := .own) (q0 := .shr) rfl rfl l i v_second v_lights v_sig K
@[simp] theorem set_note_soo {β : Type} (l : List Note) (i : Nat) (v_second : Int) (v_lights : (List Int)) (v_sig : Int) (K : List Note → Option β) : rws (noteR Own.shr) ((l.map (noteR Own.own).enc).set i [I v_second, .slc Own.own 1 (v_lights.map iR.enc), I v_sig]) K = K (l.set i (⟨v_second, v_lights, v_sig⟩ : Note)) := set_note (o0 := .shr) (p0 := .own) (q0 := .own) rfl rfl l i v_second v_lights v_sig K
@[simp] theorem rws_note_oo {β : Type} (l : List Note) (K : List Note → Option β) : rws (noteR Own.own) (l.map (noteR Own.own).enc) K = K l := rws_note rfl l K
@[simp] theorem geti_note_oo {β : Type} (l : List Note) (i : Int) (K : Note → Option β) : geti (noteR Own.own) (l.map (noteR Own.own).enc) i K = getZ l i K := geti_note rfl l i K
@[simp] theorem getn_note_oo {β : Type} (l : List Note) (i : Nat) (K : Note → Option β) : getn (noteR Own.own) (l.map (noteR Own.own).enc) i K = getN l i K := getn_note rfl l i K
@[simp] theorem row_note_oo (v_second : Int) (v_lights : (List Int)) (v_sig : Int) {β : Type} (K : List Note → Option β) : rws (noteR Own.own) [[I v_second, .slc Own.own 1 (v_lights.map iR.enc), I v_sig]] K = K [(⟨v_second, v_lights, v_sig⟩ : Note)] := row_note (o0 := .own) (p0 := .own) rfl v_second v_lights v_sig K
@[simp] theorem rep_note_oo (v_second : Int) (v_lights : (List Int)) (v_sig : Int) {β : Type} (m : Nat) (K : List Note → Option β) : rws (noteR Own.own) (List.replicate m [I v_second, .slc Own.own 1 (v_lights.map iR.enc), I v_sig]) K = K (List.replicate m (⟨v_second, v_lights, v_sig⟩ : Note)) := rep_note (o0 := .own) (p0 := .own) rfl m v_second v_lights v_sig K
@[simp] theorem rowz_note_oo (v_second : Int) (v_sig : Int) {β : Type} (K : List Note → Option β) : rws (noteR Own.own) [[I v_second, .slc Own.own 1 [], I v_sig]] K = K [(⟨v_second, [], v_sig⟩ : Note)] := row_note (o0 := .own) (p0 := .own) rfl v_second [] v_sig K
@[simp] theorem repz_note_oo (v_second : Int) (v_sig : Int) {β : Type} (m : Nat) (K : List Note → Option β) : rws (noteR Own.own) (List.replicate m [I v_second, .slc Own.own 1 [], I v_sig]) K = K (List.replicate m (⟨v_second, [], v_sig⟩ : Note)) := rep_note (o0 := .own) (p0 := .own) rfl m v_second [] v_sig K
@[simp] theorem set_note_ooo {β : Type} (l : List Note) (i : Nat) (v_second : Int) (v_lights : (List Int)) (v_sig : Int) (K : List Note → Option β) : rws (noteR Own.own) ((l.map (noteR Own.own).enc).set i [I v_second, .slc Own.own 1 (v_lights.map iR.enc), I v_sig]) K = K (l.set i (⟨v_second, v_lights, v_sig⟩ : Note)) := set_note (o0 := .own) (p0 := .own) (q0 := .own) rfl rfl l i v_second v_lights v_sig K
@[simp] theorem rws_note_uu {β : Type} (l : List Note) (K : List Note → Option β) : rws (noteR Own.unq) (l.map (noteR Own.unq).enc) K = K l := rws_note rfl l K
@[simp] theorem geti_note_uu {β : Type} (l : List Note) (i : Int) (K : Note → Option β) : geti (noteR Own.unq) (l.map (noteR Own.unq).enc) i K = getZ l i K := geti_note rfl l i K
@[simp] theorem getn_note_uu {β : Type} (l : List Note) (i : Nat) (K : Note → Option β) : getn (noteR Own.unq) (l.map (noteR Own.unq).enc) i K = getN l i K := getn_note rfl l i K
@[simp] theorem row_note_uu (v_second : Int) (v_lights : (List Int)) (v_sig : Int) {β : Type} (K : List Note → Option β) : rws (noteR Own.unq) [[I v_second, .slc Own.unq 1 (v_lights.map iR.enc), I v_sig]] K = K [(⟨v_second, v_lights, v_sig⟩ : Note)] := row_note (o0 := .unq) (p0 := .unq) rfl v_second v_lights v_sig K
@[simp] theorem rep_note_uu (v_second : Int) (v_lights : (List Int)) (v_sig : Int) {β : Type} (m : Nat) (K : List Note → Option β) : rws (noteR Own.unq) (List.replicate m [I v_second, .slc Own.unq 1 (v_lights.map iR.enc), I v_sig]) K = K (List.replicate m (⟨v_second, v_lights, v_sig⟩ : Note)) := rep_note (o0 := .unq) (p0 := .unq) rfl m v_second v_lights v_sig K
@[simp] theorem rowz_note_uu (v_second : Int) (v_sig : Int) {β : Type} (K : List Note → Option β) : rws (noteR Own.unq) [[I v_second, .slc Own.unq 1 [], I v_sig]] K = K [(⟨v_second, [], v_sig⟩ : Note)] := row_note (o0 := .unq) (p0 := .unq) rfl v_second [] v_sig K
@[simp] theorem repz_note_uu (v_second : Int) (v_sig : Int) {β : Type} (m : Nat) (K : List Note → Option β) : rws (noteR Own.unq) (List.replicate m [I v_second, .slc Own.unq 1 [], I v_sig]) K = K (List.replicate m (⟨v_second, [], v_sig⟩ : Note)) := rep_note (o0 := .unq) (p0 := .unq) rfl m v_second [] v_sig K
@[simp] theorem set_note_uuu {β : Type} (l : List Note) (i : Nat) (v_second : Int) (v_lights : (List Int)) (v_sig : Int) (K : List Note → Option β) : rws (noteR Own.unq) ((l.map (noteR Own.unq).enc).set i [I v_second, .slc Own.unq 1 (v_lights.map iR.enc), I v_sig]) K = K (l.set i (⟨v_second, v_lights, v_sig⟩ : Note)) := set_note (o0 := .unq) (p0 := .unq) (q0 := .unq) rfl rfl l i v_second v_lights v_sig K
@[simp] theorem eta_Town (v : Town) : (⟨v.paths, v.control, v.wants, v.prio, v.lamps, v.power, v.record, v.books, v.now⟩ : Town) = v := rfl
@[simp] theorem eta_L1Cur (v : L1Cur) : (⟨v.b, v.i, v.h⟩ : L1Cur) = v := rfl
theorem get_l1Cur {o0 p0 : Own} (h0 : okO o0 p0 = true) (v_b : (List Int)) (v_i : Int) (v_h : Int) {β : Type} (K : L1Cur → Option β) : (l1CurR o0).get [.slc p0 1 (v_b.map yR.enc), I v_i, I v_h] K = K (⟨v_b, v_i, v_h⟩ : L1Cur) := by
  cases o0 <;> cases p0 <;> first | (exact rws_i _ _) | (exact rws_y _ _) | (simp [okO] at h0)
theorem genc_l1Cur {o0 p0 : Own} (h0 : okO o0 p0 = true) (v : L1Cur) {β : Type} (K : L1Cur → Option β) : (l1CurR o0).get ((l1CurR p0).enc v) K = K v := get_l1Cur h0 v.b v.i v.h K
theorem rws_l1Cur {o0 p0 : Own} (h0 : okO o0 p0 = true) {β : Type} (l : List L1Cur) (K : List L1Cur → Option β) : rws (l1CurR o0) (l.map (l1CurR p0).enc) K = K l := by
  have := rws_map (l1CurR o0) (l1CurR p0).enc (fun x : L1Cur => x) (fun x _ K => genc_l1Cur h0 x K) l K
  rw [this]; exact congrArg K (List.map_id l)
theorem geti_l1Cur {o0 p0 : Own} (h0 : okO o0 p0 = true) {β : Type} (l : List L1Cur) (i : Int) (K : L1Cur → Option β) : geti (l1CurR o0) (l.map (l1CurR p0).enc) i K = getZ l i K := geti_map (l1CurR o0) (l1CurR p0).enc (fun x : L1Cur => x) (fun x _ K => genc_l1Cur h0 x K) l i K
theorem getn_l1Cur {o0 p0 : Own} (h0 : okO o0 p0 = true) {β : Type} (l : List L1Cur) (i : Nat) (K : L1Cur → Option β) : getn (l1CurR o0) (l.map (l1CurR p0).enc) i K = getN l i K := getn_map (l1CurR o0) (l1CurR p0).enc (fun x : L1Cur => x) (fun x _ K => genc_l1Cur h0 x K) l i K
theorem set_l1Cur {o0 p0 : Own} {q0 : Own} (h0 : okO o0 p0 = true) (g0 : okO o0 q0 = true) {β : Type} (l : List L1Cur) (i : Nat) (v_b : (List Int)) (v_i : Int) (v_h : Int) (K : List L1Cur → Option β) : rws (l1CurR o0) ((l.map (l1CurR p0).enc).set i [.slc q0 1 (v_b.map yR.enc), I v_i, I v_h]) K = K (l.set i (⟨v_b, v_i, v_h⟩ : L1Cur)) := by
  have := rws_mset (l1CurR o0) (l1CurR p0).enc (fun x : L1Cur => x) (fun x _ K => genc_l1Cur h0 x K) [.slc q0 1 (v_b.map yR.enc), I v_i, I v_h] (⟨v_b, v_i, v_h⟩ : L1Cur) (fun K => get_l1Cur g0 _ _ _ K) l i K
  rw [this]; exact congrArg K (List.map_id _)
theorem row_l1Cur {o0 p0 : Own} (h0 : okO o0 p0 = true) (v_b : (List Int)) (v_i : Int) (v_h : Int) {β : Type} (K : List L1Cur → Option β) : rws (l1CurR o0) [[.slc p0 1 (v_b.map yR.enc), I v_i, I v_h]] K = K [(⟨v_b, v_i, v_h⟩ : L1Cur)] := get_l1Cur h0 _ _ _  (fun y => K [y])
theorem rep_l1Cur {o0 p0 : Own} (h0 : okO o0 p0 = true) {β : Type} (m : Nat) (v_b : (List Int)) (v_i : Int) (v_h : Int) (K : List L1Cur → Option β) : rws (l1CurR o0) (List.replicate m [.slc p0 1 (v_b.map yR.enc), I v_i, I v_h]) K = K (List.replicate m (⟨v_b, v_i, v_h⟩ : L1Cur)) := by
  have := rws_map (l1CurR o0) (l1CurR p0).enc (fun x : L1Cur => x) (fun x _ K => genc_l1Cur h0 x K) (List.replicate m (⟨v_b, v_i, v_h⟩ : L1Cur)) K
  have e : (List.replicate m (⟨v_b, v_i, v_h⟩ : L1Cur)).map (l1CurR p0).enc = List.replicate m [.slc p0 1 (v_b.map yR.enc), I v_i, I v_h] := List.map_replicate
  exact (congrArg (fun z => rws (l1CurR o0) z K) e).symm.trans (this.trans (congrArg K (List.map_id _)))
@[simp] theorem len_l1Cur {p0 : Own} (l : List L1Cur) : (l.map (l1CurR p0).enc).length = l.length := List.length_map _
@[simp] theorem take_l1Cur {p0 : Own} (l : List L1Cur) (n : Nat) : (l.map (l1CurR p0).enc).take n = (l.take n).map (l1CurR p0).enc := List.map_take.symm
@[simp] theorem drop_l1Cur {p0 : Own} (l : List L1Cur) (n : Nat) : (l.map (l1CurR p0).enc).drop n = (l.drop n).map (l1CurR p0).enc := List.map_drop.symm
@[simp] theorem toUss_l1Cur (l : List L1Cur) : toUss (l.map (l1CurR Own.own).enc) = l.map (l1CurR Own.unq).enc := toUss_map (fun x => by show toUs [.slc Own.own 1 (x.b.map yR.enc), I x.i, I x.h] = [.slc Own.unq 1 (x.b.map yR.enc), I x.i, I x.h]; simp [toUs, AV.toU]) l
@[simp] theorem sete_l1Cur_uu (l : List L1Cur) (i : Nat) (v_b : (List Int)) (v_i : Int) (v_h : Int) : (l.map (l1CurR Own.unq).enc).set i [.slc Own.unq 1 (v_b.map yR.enc), I v_i, I v_h] = (l.set i (⟨v_b, v_i, v_h⟩ : L1Cur)).map (l1CurR Own.unq).enc := (List.map_set (f := (l1CurR Own.unq).enc) (l := l) (i := i) (a := (⟨v_b, v_i, v_h⟩ : L1Cur))).symm
@[simp] theorem borss_l1Cur (l : List L1Cur) : borss (l.map (l1CurR Own.unq).enc) = l.map (l1CurR Own.shr).enc := borss_map (fun x => by show bors [.slc Own.unq 1 (x.b.map yR.enc), I x.i, I x.h] = [.slc Own.shr 1 (x.b.map yR.enc), I x.i, I x.h]; simp [bors, AV.bor]) l
@[simp] theorem okUss_l1Cur (l : List L1Cur) : okUss (l.map (l1CurR Own.own).enc) = true := okUss_map (fun x => by show okUs [.slc Own.own 1 (x.b.map yR.enc), I x.i, I x.h] = true; simp [okUs, AV.okU]) l
@[simp] theorem rws_l1Cur_ss {β : Type} (l : List L1Cur) (K : List L1Cur → Option β) : rws (l1CurR Own.shr) (l.map (l1CurR Own.shr).enc) K = K l := rws_l1Cur rfl l K
@[simp] theorem geti_l1Cur_ss {β : Type} (l : List L1Cur) (i : Int) (K : L1Cur → Option β) : geti (l1CurR Own.shr) (l.map (l1CurR Own.shr).enc) i K = getZ l i K := geti_l1Cur rfl l i K
@[simp] theorem getn_l1Cur_ss {β : Type} (l : List L1Cur) (i : Nat) (K : L1Cur → Option β) : getn (l1CurR Own.shr) (l.map (l1CurR Own.shr).enc) i K = getN l i K := getn_l1Cur rfl l i K
@[simp] theorem row_l1Cur_ss (v_b : (List Int)) (v_i : Int) (v_h : Int) {β : Type} (K : List L1Cur → Option β) : rws (l1CurR Own.shr) [[.slc Own.shr 1 (v_b.map yR.enc), I v_i, I v_h]] K = K [(⟨v_b, v_i, v_h⟩ : L1Cur)] := row_l1Cur (o0 := .shr) (p0 := .shr) rfl v_b v_i v_h K
@[simp] theorem rep_l1Cur_ss (v_b : (List Int)) (v_i : Int) (v_h : Int) {β : Type} (m : Nat) (K : List L1Cur → Option β) : rws (l1CurR Own.shr) (List.replicate m [.slc Own.shr 1 (v_b.map yR.enc), I v_i, I v_h]) K = K (List.replicate m (⟨v_b, v_i, v_h⟩ : L1Cur)) := rep_l1Cur (o0 := .shr) (p0 := .shr) rfl m v_b v_i v_h K
@[simp] theorem rowz_l1Cur_ss (v_i : Int) (v_h : Int) {β : Type} (K : List L1Cur → Option β) : rws (l1CurR Own.shr) [[.slc Own.shr 1 [], I v_i, I v_h]] K = K [(⟨[], v_i, v_h⟩ : L1Cur)] := row_l1Cur (o0 := .shr) (p0 := .shr) rfl [] v_i v_h K
@[simp] theorem repz_l1Cur_ss (v_i : Int) (v_h : Int) {β : Type} (m : Nat) (K : List L1Cur → Option β) : rws (l1CurR Own.shr) (List.replicate m [.slc Own.shr 1 [], I v_i, I v_h]) K = K (List.replicate m (⟨[], v_i, v_h⟩ : L1Cur)) := rep_l1Cur (o0 := .shr) (p0 := .shr) rfl m [] v_i v_h K
@[simp] theorem set_l1Cur_sss {β : Type} (l : List L1Cur) (i : Nat) (v_b : (List Int)) (v_i : Int) (v_h : Int) (K : List L1Cur → Option β) : rws (l1CurR Own.shr) ((l.map (l1CurR Own.shr).enc).set i [.slc Own.shr 1 (v_b.map yR.enc), I v_i, I v_h]) K = K (l.set i (⟨v_b, v_i, v_h⟩ : L1Cur)) := set_l1Cur (o0 := .shr) (p0 := .shr) (q0 := .shr) rfl rfl l i v_b v_i v_h K
@[simp] theorem set_l1Cur_sso {β : Type} (l : List L1Cur) (i : Nat) (v_b : (List Int)) (v_i : Int) (v_h : Int) (K : List L1Cur → Option β) : rws (l1CurR Own.shr) ((l.map (l1CurR Own.shr).enc).set i [.slc Own.own 1 (v_b.map yR.enc), I v_i, I v_h]) K = K (l.set i (⟨v_b, v_i, v_h⟩ : L1Cur)) := set_l1Cur (o0 := .shr) (p0 := .shr) (q0 := .own) rfl rfl l i v_b v_i v_h K
@[simp] theorem rws_l1Cur_so {β : Type} (l : List L1Cur) (K : List L1Cur → Option β) : rws (l1CurR Own.shr) (l.map (l1CurR Own.own).enc) K = K l := rws_l1Cur rfl l K
@[simp] theorem geti_l1Cur_so {β : Type} (l : List L1Cur) (i : Int) (K : L1Cur → Option β) : geti (l1CurR Own.shr) (l.map (l1CurR Own.own).enc) i K = getZ l i K := geti_l1Cur rfl l i K
@[simp] theorem getn_l1Cur_so {β : Type} (l : List L1Cur) (i : Nat) (K : L1Cur → Option β) : getn (l1CurR Own.shr) (l.map (l1CurR Own.own).enc) i K = getN l i K := getn_l1Cur rfl l i K
@[simp] theorem row_l1Cur_so (v_b : (List Int)) (v_i : Int) (v_h : Int) {β : Type} (K : List L1Cur → Option β) : rws (l1CurR Own.shr) [[.slc Own.own 1 (v_b.map yR.enc), I v_i, I v_h]] K = K [(⟨v_b, v_i, v_h⟩ : L1Cur)] := row_l1Cur (o0 := .shr) (p0 := .own) rfl v_b v_i v_h K
@[simp] theorem rep_l1Cur_so (v_b : (List Int)) (v_i : Int) (v_h : Int) {β : Type} (m : Nat) (K : List L1Cur → Option β) : rws (l1CurR Own.shr) (List.replicate m [.slc Own.own 1 (v_b.map yR.enc), I v_i, I v_h]) K = K (List.replicate m (⟨v_b, v_i, v_h⟩ : L1Cur)) := rep_l1Cur (o0 := .shr) (p0 := .own) rfl m v_b v_i v_h K
@[simp] theorem rowz_l1Cur_so (v_i : Int) (v_h : Int) {β : Type} (K : List L1Cur → Option β) : rws (l1CurR Own.shr) [[.slc Own.own 1 [], I v_i, I v_h]] K = K [(⟨[], v_i, v_h⟩ : L1Cur)] := row_l1Cur (o0 := .shr) (p0 := .own) rfl [] v_i v_h K
@[simp] theorem repz_l1Cur_so (v_i : Int) (v_h : Int) {β : Type} (m : Nat) (K : List L1Cur → Option β) : rws (l1CurR Own.shr) (List.replicate m [.slc Own.own 1 [], I v_i, I v_h]) K = K (List.replicate m (⟨[], v_i, v_h⟩ : L1Cur)) := rep_l1Cur (o0 := .shr) (p0 := .own) rfl m [] v_i v_h K
@[simp] theorem set_l1Cur_sos {β : Type} (l : List L1Cur) (i : Nat) (v_b : (List Int)) (v_i : Int) (v_h : Int) (K : List L1Cur → Option β) : rws (l1CurR Own.shr) ((l.map (l1CurR Own.own).enc).set i [.slc Own.shr 1 (v_b.map yR.enc), I v_i, I v_h]) K = K (l.set i (⟨v_b, v_i, v_h⟩ : L1Cur)) := set_l1Cur (o0 := .shr) (p0 := .own) (q0 := .shr) rfl rfl l i v_b v_i v_h K
@[simp] theorem set_l1Cur_soo {β : Type} (l : List L1Cur) (i : Nat) (v_b : (List Int)) (v_i : Int) (v_h : Int) (K : List L1Cur → Option β) : rws (l1CurR Own.shr) ((l.map (l1CurR Own.own).enc).set i [.slc Own.own 1 (v_b.map yR.enc), I v_i, I v_h]) K = K (l.set i (⟨v_b, v_i, v_h⟩ : L1Cur)) := set_l1Cur (o0 := .shr) (p0 := .own) (q0 := .own) rfl rfl l i v_b v_i v_h K
@[simp] theorem rws_l1Cur_oo {β : Type} (l : List L1Cur) (K : List L1Cur → Option β) : rws (l1CurR Own.own) (l.map (l1CurR Own.own).enc) K = K l := rws_l1Cur rfl l K
@[simp] theorem geti_l1Cur_oo {β : Type} (l : List L1Cur) (i : Int) (K : L1Cur → Option β) : geti (l1CurR Own.own) (l.map (l1CurR Own.own).enc) i K = getZ l i K := geti_l1Cur rfl l i K
@[simp] theorem getn_l1Cur_oo {β : Type} (l : List L1Cur) (i : Nat) (K : L1Cur → Option β) : getn (l1CurR Own.own) (l.map (l1CurR Own.own).enc) i K = getN l i K := getn_l1Cur rfl l i K
@[simp] theorem row_l1Cur_oo (v_b : (List Int)) (v_i : Int) (v_h : Int) {β : Type} (K : List L1Cur → Option β) : rws (l1CurR Own.own) [[.slc Own.own 1 (v_b.map yR.enc), I v_i, I v_h]] K = K [(⟨v_b, v_i, v_h⟩ : L1Cur)] := row_l1Cur (o0 := .own) (p0 := .own) rfl v_b v_i v_h K
@[simp] theorem rep_l1Cur_oo (v_b : (List Int)) (v_i : Int) (v_h : Int) {β : Type} (m : Nat) (K : List L1Cur → Option β) : rws (l1CurR Own.own) (List.replicate m [.slc Own.own 1 (v_b.map yR.enc), I v_i, I v_h]) K = K (List.replicate m (⟨v_b, v_i, v_h⟩ : L1Cur)) := rep_l1Cur (o0 := .own) (p0 := .own) rfl m v_b v_i v_h K
@[simp] theorem rowz_l1Cur_oo (v_i : Int) (v_h : Int) {β : Type} (K : List L1Cur → Option β) : rws (l1CurR Own.own) [[.slc Own.own 1 [], I v_i, I v_h]] K = K [(⟨[], v_i, v_h⟩ : L1Cur)] := row_l1Cur (o0 := .own) (p0 := .own) rfl [] v_i v_h K
@[simp] theorem repz_l1Cur_oo (v_i : Int) (v_h : Int) {β : Type} (m : Nat) (K : List L1Cur → Option β) : rws (l1CurR Own.own) (List.replicate m [.slc Own.own 1 [], I v_i, I v_h]) K = K (List.replicate m (⟨[], v_i, v_h⟩ : L1Cur)) := rep_l1Cur (o0 := .own) (p0 := .own) rfl m [] v_i v_h K
@[simp] theorem set_l1Cur_ooo {β : Type} (l : List L1Cur) (i : Nat) (v_b : (List Int)) (v_i : Int) (v_h : Int) (K : List L1Cur → Option β) : rws (l1CurR Own.own) ((l.map (l1CurR Own.own).enc).set i [.slc Own.own 1 (v_b.map yR.enc), I v_i, I v_h]) K = K (l.set i (⟨v_b, v_i, v_h⟩ : L1Cur)) := set_l1Cur (o0 := .own) (p0 := .own) (q0 := .own) rfl rfl l i v_b v_i v_h K
@[simp] theorem rws_l1Cur_uu {β : Type} (l : List L1Cur) (K : List L1Cur → Option β) : rws (l1CurR Own.unq) (l.map (l1CurR Own.unq).enc) K = K l := rws_l1Cur rfl l K
@[simp] theorem geti_l1Cur_uu {β : Type} (l : List L1Cur) (i : Int) (K : L1Cur → Option β) : geti (l1CurR Own.unq) (l.map (l1CurR Own.unq).enc) i K = getZ l i K := geti_l1Cur rfl l i K
@[simp] theorem getn_l1Cur_uu {β : Type} (l : List L1Cur) (i : Nat) (K : L1Cur → Option β) : getn (l1CurR Own.unq) (l.map (l1CurR Own.unq).enc) i K = getN l i K := getn_l1Cur rfl l i K
@[simp] theorem row_l1Cur_uu (v_b : (List Int)) (v_i : Int) (v_h : Int) {β : Type} (K : List L1Cur → Option β) : rws (l1CurR Own.unq) [[.slc Own.unq 1 (v_b.map yR.enc), I v_i, I v_h]] K = K [(⟨v_b, v_i, v_h⟩ : L1Cur)] := row_l1Cur (o0 := .unq) (p0 := .unq) rfl v_b v_i v_h K
@[simp] theorem rep_l1Cur_uu (v_b : (List Int)) (v_i : Int) (v_h : Int) {β : Type} (m : Nat) (K : List L1Cur → Option β) : rws (l1CurR Own.unq) (List.replicate m [.slc Own.unq 1 (v_b.map yR.enc), I v_i, I v_h]) K = K (List.replicate m (⟨v_b, v_i, v_h⟩ : L1Cur)) := rep_l1Cur (o0 := .unq) (p0 := .unq) rfl m v_b v_i v_h K
@[simp] theorem rowz_l1Cur_uu (v_i : Int) (v_h : Int) {β : Type} (K : List L1Cur → Option β) : rws (l1CurR Own.unq) [[.slc Own.unq 1 [], I v_i, I v_h]] K = K [(⟨[], v_i, v_h⟩ : L1Cur)] := row_l1Cur (o0 := .unq) (p0 := .unq) rfl [] v_i v_h K
@[simp] theorem repz_l1Cur_uu (v_i : Int) (v_h : Int) {β : Type} (m : Nat) (K : List L1Cur → Option β) : rws (l1CurR Own.unq) (List.replicate m [.slc Own.unq 1 [], I v_i, I v_h]) K = K (List.replicate m (⟨[], v_i, v_h⟩ : L1Cur)) := rep_l1Cur (o0 := .unq) (p0 := .unq) rfl m [] v_i v_h K
@[simp] theorem set_l1Cur_uuu {β : Type} (l : List L1Cur) (i : Nat) (v_b : (List Int)) (v_i : Int) (v_h : Int) (K : List L1Cur → Option β) : rws (l1CurR Own.unq) ((l.map (l1CurR Own.unq).enc).set i [.slc Own.unq 1 (v_b.map yR.enc), I v_i, I v_h]) K = K (l.set i (⟨v_b, v_i, v_h⟩ : L1Cur)) := set_l1Cur (o0 := .unq) (p0 := .unq) (q0 := .unq) rfl rfl l i v_b v_i v_h K
@[simp] theorem b2_v {β : Type} (x : Option β) : b2 x = x := by unfold b2; exact bothK_self x
@[simp] theorem b3_v {β : Type} (x : Option β) : b3 x = x := by unfold b3; rw [b2_v]; exact bothK_self x
@[simp] theorem b4_v {β : Type} (x : Option β) : b4 x = x := by unfold b4; rw [b3_v]; exact bothK_self x
@[simp] theorem b5_v {β : Type} (x : Option β) : b5 x = x := by unfold b5; rw [b4_v]; exact bothK_self x
@[simp] theorem b6_v {β : Type} (x : Option β) : b6 x = x := by unfold b6; rw [b5_v]; exact bothK_self x
@[simp] theorem b7_v {β : Type} (x : Option β) : b7 x = x := by unfold b7; rw [b6_v]; exact bothK_self x
@[simp] theorem b8_v {β : Type} (x : Option β) : b8 x = x := by unfold b8; rw [b7_v]; exact bothK_self x
@[simp] theorem rC_v {β : Type} (x : Control) (K : Control → Option β) : rC x K = K x := (rws_i x.stage _).trans (rws_i x.next _)
@[simp] theorem rT_ss {β : Type} (x : Town) (K : Town → Option β) : rT Own.shr Own.shr x K = K x := (rws_path x.paths _).trans ((rws_i x.control.stage _).trans ((rws_i x.control.next _).trans ((rws_want x.wants _).trans ((rws_lamp x.lamps _).trans (rws_note_ss x.record _)))))
@[simp] theorem rT_so {β : Type} (x : Town) (K : Town → Option β) : rT Own.shr Own.own x K = K x := (rws_path x.paths _).trans ((rws_i x.control.stage _).trans ((rws_i x.control.next _).trans ((rws_want x.wants _).trans ((rws_lamp x.lamps _).trans (rws_note_so x.record _)))))
@[simp] theorem rT_oo {β : Type} (x : Town) (K : Town → Option β) : rT Own.own Own.own x K = K x := (rws_path x.paths _).trans ((rws_i x.control.stage _).trans ((rws_i x.control.next _).trans ((rws_want x.wants _).trans ((rws_lamp x.lamps _).trans (rws_note_oo x.record _)))))
@[simp] theorem rT_uu {β : Type} (x : Town) (K : Town → Option β) : rT Own.unq Own.unq x K = K x := (rws_path x.paths _).trans ((rws_i x.control.stage _).trans ((rws_i x.control.next _).trans ((rws_want x.wants _).trans ((rws_lamp x.lamps _).trans (rws_note_uu x.record _)))))
end Go.Sh
