/- Part of the proof: see the last text of the claim. -/
import Derived.Test.YtkbhcieejpbjpaaGreatFzZK
import Derived.Test.YtkbhcieejpbjpaaGreatProg
import Derived.Shelf.SlSortCmp.NoneTotal
import Derived.WalkKit
import Derived.Deep.LoopGhost
import Derived.Shelf.RegionOpenPlain
import Derived.KernelRfl
set_option linter.all false
namespace Go.Proofs.YtkbhcieejpbjpaaGreat
open Go.Shelf Go.RowKit Go.Proofs Go.Fx
set_option maxRecDepth 100000
def laysSort_ren : Go.Shelf.Ren := ⟨fun | 6 => 158 | 15 => 211 | 14 => 210 | 28 => 257 | 29 => 258 | 20 => 249 | 21 => 250 | 22 => 251 | 23 => 252 | 24 => 253 | 25 => 254 | 26 => 255 | 27 => 256 | 46 => 279 | 47 => 280 | 48 => 281 | 49 => 282 | 50 => 283 | 57 => 293 | n => n, fun | 22 => 48 | 24 => 25 | 25 => 178 | 3 => 3 | 39 => 212 | 0 => 0 | 53 => 237 | 55 => 239 | 4 => 4 | 46 => 231 | 45 => 230 | 50 => 222 | 5 => 5 | 9 => 9 | 66 => 248 | 70 => 252 | 76 => 255 | 77 => 225 | n => n, fun n => n⟩
theorem laysSort : Go.Proofs.SlLaysF.n6 Tryz.prog laysSort_ren where
  mixed := by kernel_rfl
  f6 := ⟨Tryz.f158.name, by kernel_rfl, Tryz.func158.trans (congrArg some (by kernel_rfl))⟩
  f14 := ⟨Tryz.f210.name, by kernel_rfl, Tryz.func210.trans (congrArg some (by kernel_rfl))⟩
  f15 := Tryz.func211.trans (congrArg some (by kernel_rfl))
  f20 := ⟨Tryz.f249.name, by kernel_rfl, Tryz.func249.trans (congrArg some (by kernel_rfl))⟩
  f21 := ⟨Tryz.f250.name, by kernel_rfl, Tryz.func250.trans (congrArg some (by kernel_rfl))⟩
  f22 := ⟨Tryz.f251.name, by kernel_rfl, Tryz.func251.trans (congrArg some (by kernel_rfl))⟩
  f23 := ⟨Tryz.f252.name, by kernel_rfl, Tryz.func252.trans (congrArg some (by kernel_rfl))⟩
  f24 := ⟨Tryz.f253.name, by kernel_rfl, Tryz.func253.trans (congrArg some (by kernel_rfl))⟩
  f25 := ⟨Tryz.f254.name, by kernel_rfl, Tryz.func254.trans (congrArg some (by kernel_rfl))⟩
  f26 := ⟨Tryz.f255.name, by kernel_rfl, Tryz.func255.trans (congrArg some (by kernel_rfl))⟩
  f27 := ⟨Tryz.f256.name, by kernel_rfl, Tryz.func256.trans (congrArg some (by kernel_rfl))⟩
  f28 := Tryz.func257.trans (congrArg some (by kernel_rfl))
  f29 := Tryz.func258.trans (congrArg some (by kernel_rfl))
  f46 := ⟨Tryz.f279.name, by kernel_rfl, Tryz.func279.trans (congrArg some (by kernel_rfl))⟩
  f47 := Tryz.func280.trans (congrArg some (by kernel_rfl))
  f48 := Tryz.func281.trans (congrArg some (by kernel_rfl))
  f49 := ⟨Tryz.f282.name, by kernel_rfl, Tryz.func282.trans (congrArg some (by kernel_rfl))⟩
  f50 := ⟨Tryz.f283.name, by kernel_rfl, Tryz.func283.trans (congrArg some (by kernel_rfl))⟩
  f57 := ⟨Tryz.f293.name, by kernel_rfl, Tryz.func293.trans (congrArg some (by kernel_rfl))⟩
  t0 := Tryz.underlying0
  a0 := Tryz.isAgg0
  z0 := Tryz.sizeOf0
  v0 := Tryz.zeroValue0
  t3 := Tryz.underlying3
  a3 := Tryz.isAgg3
  z3 := Tryz.sizeOf3
  v3 := Tryz.zeroValue3
  t4 := Tryz.underlying4
  a4 := Tryz.isAgg4
  z4 := Tryz.sizeOf4
  v4 := Tryz.zeroValue4
  t5 := Tryz.underlying5
  a5 := Tryz.isAgg5
  z5 := Tryz.sizeOf5
  v5 := Tryz.zeroValue5
  t9 := Tryz.underlying9
  a9 := Tryz.isAgg9
  z9 := Tryz.sizeOf9
  v9 := Tryz.zeroValue9
  t22 := Tryz.underlying48
  a22 := Tryz.isAgg48
  z22 := Tryz.sizeOf48
  v22 := Tryz.zeroValue48
  a24 := Tryz.isAgg25
  z24 := Tryz.sizeOf25
  t25 := Tryz.underlying178
  a25 := Tryz.isAgg178
  z25 := Tryz.sizeOf178
  v25 := Tryz.zeroValue178
  t39 := Tryz.underlying212
  a39 := Tryz.isAgg212
  z39 := Tryz.sizeOf212
  v39 := Tryz.zeroValue212
  t45 := Tryz.underlying230
  a45 := Tryz.isAgg230
  z45 := Tryz.sizeOf230
  v45 := Tryz.zeroValue230
  t46 := Tryz.underlying231
  a46 := Tryz.isAgg231
  z46 := Tryz.sizeOf231
  v46 := Tryz.zeroValue231
  t50 := Tryz.underlying222
  a50 := Tryz.isAgg222
  z50 := Tryz.sizeOf222
  v50 := Tryz.zeroValue222
  t53 := Tryz.underlying237
  a53 := Tryz.isAgg237
  z53 := Tryz.sizeOf237
  v53 := Tryz.zeroValue237
  t55 := Tryz.underlying239
  a55 := Tryz.isAgg239
  z55 := Tryz.sizeOf239
  v55 := Tryz.zeroValue239
  t66 := Tryz.underlying248
  a66 := Tryz.isAgg248
  z66 := Tryz.sizeOf248
  v66 := Tryz.zeroValue248
  t70 := Tryz.underlying252
  a70 := Tryz.isAgg252
  z70 := Tryz.sizeOf252
  v70 := Tryz.zeroValue252
  t76 := Tryz.underlying255
  a76 := Tryz.isAgg255
  z76 := Tryz.sizeOf255
  v76 := Tryz.zeroValue255
  t77 := Tryz.underlying225
  a77 := Tryz.isAgg225
  z77 := Tryz.sizeOf225
  v77 := Tryz.zeroValue225
theorem walk_isNaN (x : Int) (w : World) : Calls Tryz.prog 259 #[.int .i64 x] w fun e w' => e = .returned (.bool false) ∧ w' = w := by
  go_enter Tryz.func259, Tryz.ntmps259
  go_wp2
  all_goals (go_ret; exact ⟨rfl, rfl⟩)
theorem walk_cmp (x y : Int) (w : World) : Calls Tryz.prog 212 #[.int .i64 x, .int .i64 y] w fun e w' => e = .returned (.int .i64 (cmpI x y)) ∧ w' = w := by
  have e49 : ∀ args w, (callFunc 259 args).run Tryz.prog w = .ok (.enter 259 args) w := fun args w => Fx.run_callFunc Tryz.func259 (by kernel_rfl) rfl _ _
  go_enter Tryz.func212, Tryz.ntmps212
  go_wp2_with (go_at_fn 259; refine (walk_isNaN _ _).mono ?_; rintro e w' ⟨rfl, hw⟩; rw [hw])
  all_goals (go_ret; refine ⟨?_, rfl⟩; unfold cmpI; (repeat' split) <;> first | rfl | (exfalso; omega))
theorem cmpL_at {xs ys : List Int} {k : Nat} (hx : k < xs.length) (hy : k < ys.length) : cmpL (xs.drop k) (ys.drop k) = if cmpI xs[k]! ys[k]! = 0 then cmpL (xs.drop (k + 1)) (ys.drop (k + 1)) else cmpI xs[k]! ys[k]! := by
  rw [List.drop_eq_getElem_cons hx, List.drop_eq_getElem_cons hy, cmpL, getElem!_pos xs k hx, getElem!_pos ys k hy]
set_option maxHeartbeats 2000000 in
theorem walk_Compare (A1 A2 : Option Addr) (b1 o1 n c b2 o2 m d : Nat) (xs ys : List Int) (w : World) (hn : xs.length = n) (hm : ys.length = m) (hbig : n ≤ 9223372036854775807) (hbig2 : m ≤ 9223372036854775807)
    (hA1 : 0 < n → A1 = some ⟨b1, o1, none⟩) (hA2 : 0 < m → A2 = some ⟨b2, o2, none⟩) (h1 : ∀ j, j < n → w.cell? ⟨b1, o1 + j, none⟩ = some (.int .i64 xs[j]!)) (h2 : ∀ j, j < m → w.cell? ⟨b2, o2 + j, none⟩ = some (.int .i64 ys[j]!)) :
    Calls Tryz.prog 159 #[.slice A1 n c, .slice A2 m d] w fun e w' => e = .returned (.int .i64 (cmpL xs ys)) ∧ w' = w := by
  have e32 : ∀ args w, (callFunc 212 args).run Tryz.prog w = .ok (.enter 212 args) w := fun args w => Fx.run_callFunc Tryz.func212 (by kernel_rfl) rfl _ _
  have H0 : Aside (xs.length = n ∧ ys.length = m) := ⟨hn, hm⟩
  clear hn hm
  go_enter Tryz.func159, Tryz.ntmps159
  go_wp2
  go_loopg [11] n (fun g s11 wr => wr = w ∧ ∃ k : Nat, k ≤ n ∧ k ≤ m ∧ g = n - k ∧ s11 = .int .i64 k ∧ Aside (cmpL (xs.drop k) (ys.drop k) = cmpL xs ys))
  case atStart => exact ⟨rfl, 0, Nat.zero_le _, Nat.zero_le _, rfl, rfl, rfl⟩
  case round =>
    obtain ⟨rfl, k, hk, hk2, rfl, rfl, A⟩ := hrel
    by_cases hlt : k < n
    · obtain rfl := hA1 (by omega)
      have g1 := h1 k hlt
      by_cases hlt2 : k < m
      · obtain rfl := hA2 (by omega)
        have g2 := h2 k hlt2
        clear h1 h2
        generalize hx : xs[k]! = x at g1
        generalize hy : ys[k]! = y at g2
        have B : Aside (xs[k]! = x ∧ ys[k]! = y) := ⟨hx, hy⟩
        clear hx hy
        by_cases hc : cmpI x y = 0
        · go_wp2_with (go_at_fn 212; refine (walk_cmp _ _ _).mono ?_; rintro e w' ⟨rfl, hw⟩; rw [hw]; rw [hc])
          go_roundg (n - (k + 1))
          case measure => omega
          case rel =>
            refine ⟨rfl, k + 1, by omega, by omega, rfl, by go_num, ?_⟩
            have := cmpL_at (xs := xs) (ys := ys) (k := k) (by rw [H0.out.1]; exact hlt) (by rw [H0.out.2]; exact hlt2)
            rw [B.out.1, B.out.2, if_pos hc] at this
            exact this.symm.trans A.out
        · go_wp2_with (go_at_fn 212; refine (walk_cmp _ _ _).mono ?_; rintro e w' ⟨rfl, hw⟩; rw [hw])
          go_ret
          refine ⟨?_, rfl⟩
          have := cmpL_at (xs := xs) (ys := ys) (k := k) (by rw [H0.out.1]; exact hlt) (by rw [H0.out.2]; exact hlt2)
          rw [B.out.1, B.out.2, if_neg hc] at this
          rw [← A.out, this]
          rfl
      · clear h1 h2
        have : m = k := by omega
        go_wp2
        go_ret
        refine ⟨?_, rfl⟩
        have hx := H0.out.1
        have hy := H0.out.2
        rw [← A.out, List.drop_eq_nil_of_le (show ys.length ≤ k by omega), List.drop_eq_getElem_cons (show k < xs.length by omega)]
        rfl
    · have : n = k := by omega
      clear h1 h2
      by_cases hlt2 : n < m
      · go_wp2
        go_ret
        refine ⟨?_, rfl⟩
        have hx := H0.out.1
        have hy := H0.out.2
        rw [← A.out, List.drop_eq_nil_of_le (show xs.length ≤ k by omega), List.drop_eq_getElem_cons (show k < ys.length by omega)]
        rfl
      · go_wp2
        go_ret
        refine ⟨?_, rfl⟩
        have hx := H0.out.1
        have hy := H0.out.2
        rw [← A.out, List.drop_eq_nil_of_le (show xs.length ≤ k by omega), List.drop_eq_nil_of_le (show ys.length ≤ k by omega)]
        rfl
theorem walk_CompareR (xs ys : List Int) (v1 v2 : Value) (w : World) (h1 : ReadI w v1 xs (fun _ _ => True)) (h2 : ReadI w v2 ys (fun _ _ => True)) : Calls Tryz.prog 159 #[v1, v2] w fun e w' => e = .returned (.int .i64 (cmpL xs ys)) ∧ w' = w := by
  obtain ⟨A1, n, c, b1, o1, rfl, hn, hl, ha, hc⟩ := h1
  obtain ⟨A2, m, d, b2, o2, rfl, hm, hl2, ha2, hc2⟩ := h2
  unfold maxLen at hl hl2
  exact walk_Compare A1 A2 b1 o1 n c b2 o2 m d xs ys w hn hm (by omega) (by omega) (fun h => (ha h).1) (fun h => (ha2 h).1) (fun j hj => (hc j hj).2) (fun j hj => (hc2 j hj).2)
theorem srt_some {l : List (List Int)} {r : List (List Int)} (h : ifA (l.length < 4611686018427387904) (some (sortL l)) = some r) : l.length < 4611686018427387904 ∧ sortL l = r := by
  unfold ifA at h
  split at h
  · exact ⟨‹_›, Option.some.inj h⟩
  · cases h
theorem srt_spec {ng : Nat} {G0 : Nat → Option Obj} : ∀ x : List (List Int), x.length < 4611686018427387904 → SpecU Tryz.prog ng G0 158 [.slc .unq 1 (x.map (rowE .own)), .fn 159 []] (.tup [.tup [], .slc .unq 1 ((sortL x).map (rowE .own))]) :=
  sort_spec (.inl rfl) laysSort rfl Tryz.func158 (by kernel_rfl) rfl (fun args w => run_callFunc Tryz.func159 (by kernel_rfl) rfl _ _) (AnyF.slices_SortFunc_none { laysSort with }) walk_CompareR
end Go.Proofs.YtkbhcieejpbjpaaGreat
