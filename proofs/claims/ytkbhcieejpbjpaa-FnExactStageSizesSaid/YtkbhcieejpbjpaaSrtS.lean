/- Part of the proof: see the last text of the claim. -/
import Derived.Test.YtkbhcieejpbjpaaFzZK
import Derived.Test.YtkbhcieejpbjpaaProg
import Derived.Shelf.SlSortCmp.NoneTotal
import Derived.WalkKit
import Derived.Deep.LoopGhost
import Derived.Shelf.RegionOpenPlain
import Derived.KernelRfl
set_option linter.all false
namespace Go.Proofs.Ytkbhcieejpbjpaa
open Go.Shelf Go.RowKit Go.Proofs Go.Fx
set_option maxRecDepth 100000
def laysSort_ren : Go.Shelf.Ren := ⟨fun | 6 => 21 | 15 => 31 | 14 => 30 | 28 => 47 | 29 => 48 | 20 => 39 | 21 => 40 | 22 => 41 | 23 => 42 | 24 => 43 | 25 => 44 | 26 => 45 | 27 => 46 | 46 => 53 | 47 => 54 | 48 => 55 | 49 => 56 | 50 => 57 | 57 => 58 | n => n, fun | 22 => 33 | 24 => 24 | 25 => 43 | 3 => 3 | 39 => 50 | 0 => 0 | 53 => 64 | 55 => 66 | 4 => 4 | 46 => 57 | 45 => 56 | 50 => 61 | 5 => 5 | 9 => 9 | 66 => 68 | 70 => 72 | 76 => 74 | 77 => 75 | n => n, fun n => n⟩
theorem laysSort : Go.Proofs.SlLaysF.n6 Try.prog laysSort_ren where
  mixed := by kernel_rfl
  f6 := ⟨Try.f21.name, by kernel_rfl, Try.func21.trans (congrArg some (by kernel_rfl))⟩
  f14 := ⟨Try.f30.name, by kernel_rfl, Try.func30.trans (congrArg some (by kernel_rfl))⟩
  f15 := Try.func31.trans (congrArg some (by kernel_rfl))
  f20 := ⟨Try.f39.name, by kernel_rfl, Try.func39.trans (congrArg some (by kernel_rfl))⟩
  f21 := ⟨Try.f40.name, by kernel_rfl, Try.func40.trans (congrArg some (by kernel_rfl))⟩
  f22 := ⟨Try.f41.name, by kernel_rfl, Try.func41.trans (congrArg some (by kernel_rfl))⟩
  f23 := ⟨Try.f42.name, by kernel_rfl, Try.func42.trans (congrArg some (by kernel_rfl))⟩
  f24 := ⟨Try.f43.name, by kernel_rfl, Try.func43.trans (congrArg some (by kernel_rfl))⟩
  f25 := ⟨Try.f44.name, by kernel_rfl, Try.func44.trans (congrArg some (by kernel_rfl))⟩
  f26 := ⟨Try.f45.name, by kernel_rfl, Try.func45.trans (congrArg some (by kernel_rfl))⟩
  f27 := ⟨Try.f46.name, by kernel_rfl, Try.func46.trans (congrArg some (by kernel_rfl))⟩
  f28 := Try.func47.trans (congrArg some (by kernel_rfl))
  f29 := Try.func48.trans (congrArg some (by kernel_rfl))
  f46 := ⟨Try.f53.name, by kernel_rfl, Try.func53.trans (congrArg some (by kernel_rfl))⟩
  f47 := Try.func54.trans (congrArg some (by kernel_rfl))
  f48 := Try.func55.trans (congrArg some (by kernel_rfl))
  f49 := ⟨Try.f56.name, by kernel_rfl, Try.func56.trans (congrArg some (by kernel_rfl))⟩
  f50 := ⟨Try.f57.name, by kernel_rfl, Try.func57.trans (congrArg some (by kernel_rfl))⟩
  f57 := ⟨Try.f58.name, by kernel_rfl, Try.func58.trans (congrArg some (by kernel_rfl))⟩
  t0 := Try.underlying0
  a0 := Try.isAgg0
  z0 := Try.sizeOf0
  v0 := Try.zeroValue0
  t3 := Try.underlying3
  a3 := Try.isAgg3
  z3 := Try.sizeOf3
  v3 := Try.zeroValue3
  t4 := Try.underlying4
  a4 := Try.isAgg4
  z4 := Try.sizeOf4
  v4 := Try.zeroValue4
  t5 := Try.underlying5
  a5 := Try.isAgg5
  z5 := Try.sizeOf5
  v5 := Try.zeroValue5
  t9 := Try.underlying9
  a9 := Try.isAgg9
  z9 := Try.sizeOf9
  v9 := Try.zeroValue9
  t22 := Try.underlying33
  a22 := Try.isAgg33
  z22 := Try.sizeOf33
  v22 := Try.zeroValue33
  a24 := Try.isAgg24
  z24 := Try.sizeOf24
  t25 := Try.underlying43
  a25 := Try.isAgg43
  z25 := Try.sizeOf43
  v25 := Try.zeroValue43
  t39 := Try.underlying50
  a39 := Try.isAgg50
  z39 := Try.sizeOf50
  v39 := Try.zeroValue50
  t45 := Try.underlying56
  a45 := Try.isAgg56
  z45 := Try.sizeOf56
  v45 := Try.zeroValue56
  t46 := Try.underlying57
  a46 := Try.isAgg57
  z46 := Try.sizeOf57
  v46 := Try.zeroValue57
  t50 := Try.underlying61
  a50 := Try.isAgg61
  z50 := Try.sizeOf61
  v50 := Try.zeroValue61
  t53 := Try.underlying64
  a53 := Try.isAgg64
  z53 := Try.sizeOf64
  v53 := Try.zeroValue64
  t55 := Try.underlying66
  a55 := Try.isAgg66
  z55 := Try.sizeOf66
  v55 := Try.zeroValue66
  t66 := Try.underlying68
  a66 := Try.isAgg68
  z66 := Try.sizeOf68
  v66 := Try.zeroValue68
  t70 := Try.underlying72
  a70 := Try.isAgg72
  z70 := Try.sizeOf72
  v70 := Try.zeroValue72
  t76 := Try.underlying74
  a76 := Try.isAgg74
  z76 := Try.sizeOf74
  v76 := Try.zeroValue74
  t77 := Try.underlying75
  a77 := Try.isAgg75
  z77 := Try.sizeOf75
  v77 := Try.zeroValue75
theorem walk_isNaN (x : Int) (w : World) : Calls Try.prog 49 #[.int .i64 x] w fun e w' => e = .returned (.bool false) ∧ w' = w := by
  go_enter Try.func49, Try.ntmps49
  go_wp2
  all_goals (go_ret; exact ⟨rfl, rfl⟩)
theorem walk_cmp (x y : Int) (w : World) : Calls Try.prog 32 #[.int .i64 x, .int .i64 y] w fun e w' => e = .returned (.int .i64 (cmpI x y)) ∧ w' = w := by
  have e49 : ∀ args w, (callFunc 49 args).run Try.prog w = .ok (.enter 49 args) w := fun args w => Fx.run_callFunc Try.func49 (by kernel_rfl) rfl _ _
  go_enter Try.func32, Try.ntmps32
  go_wp2_with (go_at_fn 49; refine (walk_isNaN _ _).mono ?_; rintro e w' ⟨rfl, hw⟩; rw [hw])
  all_goals (go_ret; refine ⟨?_, rfl⟩; unfold cmpI; (repeat' split) <;> first | rfl | (exfalso; omega))
theorem cmpL_at {xs ys : List Int} {k : Nat} (hx : k < xs.length) (hy : k < ys.length) : cmpL (xs.drop k) (ys.drop k) = if cmpI xs[k]! ys[k]! = 0 then cmpL (xs.drop (k + 1)) (ys.drop (k + 1)) else cmpI xs[k]! ys[k]! := by
  rw [List.drop_eq_getElem_cons hx, List.drop_eq_getElem_cons hy, cmpL, getElem!_pos xs k hx, getElem!_pos ys k hy]
set_option maxHeartbeats 2000000 in
theorem walk_Compare (A1 A2 : Option Addr) (b1 o1 n c b2 o2 m d : Nat) (xs ys : List Int) (w : World) (hn : xs.length = n) (hm : ys.length = m) (hbig : n ≤ 9223372036854775807) (hbig2 : m ≤ 9223372036854775807)
    (hA1 : 0 < n → A1 = some ⟨b1, o1, none⟩) (hA2 : 0 < m → A2 = some ⟨b2, o2, none⟩) (h1 : ∀ j, j < n → w.cell? ⟨b1, o1 + j, none⟩ = some (.int .i64 xs[j]!)) (h2 : ∀ j, j < m → w.cell? ⟨b2, o2 + j, none⟩ = some (.int .i64 ys[j]!)) :
    Calls Try.prog 22 #[.slice A1 n c, .slice A2 m d] w fun e w' => e = .returned (.int .i64 (cmpL xs ys)) ∧ w' = w := by
  have e32 : ∀ args w, (callFunc 32 args).run Try.prog w = .ok (.enter 32 args) w := fun args w => Fx.run_callFunc Try.func32 (by kernel_rfl) rfl _ _
  have H0 : Aside (xs.length = n ∧ ys.length = m) := ⟨hn, hm⟩
  clear hn hm
  go_enter Try.func22, Try.ntmps22
  go_wp2
  go_loopg [11] n (fun g s11 wr => wr = w ∧ ∃ k : Nat, k ≤ n ∧ k ≤ m ∧ g = n - k ∧ s11 = .int .i64 k ∧ Aside (cmpL (xs.drop k) (ys.drop k) = cmpL xs ys))
  case atStart => exact ⟨rfl, 0, Nat.zero_le _, Nat.zero_le _, rfl, rfl, rfl⟩
  case round =>
    obtain ⟨rfl, k, hk, hk2, rfl, rfl, A⟩ := hrel
    by_cases hlt : k < n
    · obtain rfl := hA1 (by omega)
      have g1 := h1 k hlt
      by_cases hlt2 : k < m
      · obtain rfl := hA2 (by omega)
        have g2 := h2 k hlt2
        clear h1 h2
        generalize hx : xs[k]! = x at g1
        generalize hy : ys[k]! = y at g2
        have B : Aside (xs[k]! = x ∧ ys[k]! = y) := ⟨hx, hy⟩
        clear hx hy
        by_cases hc : cmpI x y = 0
        · go_wp2_with (go_at_fn 32; refine (walk_cmp _ _ _).mono ?_; rintro e w' ⟨rfl, hw⟩; rw [hw]; rw [hc])
          go_roundg (n - (k + 1))
          case measure => omega
          case rel =>
            refine ⟨rfl, k + 1, by omega, by omega, rfl, by go_num, ?_⟩
            have := cmpL_at (xs := xs) (ys := ys) (k := k) (by rw [H0.out.1]; exact hlt) (by rw [H0.out.2]; exact hlt2)
            rw [B.out.1, B.out.2, if_pos hc] at this
            exact this.symm.trans A.out
        · go_wp2_with (go_at_fn 32; refine (walk_cmp _ _ _).mono ?_; rintro e w' ⟨rfl, hw⟩; rw [hw])
          go_ret
          refine ⟨?_, rfl⟩
          have := cmpL_at (xs := xs) (ys := ys) (k := k) (by rw [H0.out.1]; exact hlt) (by rw [H0.out.2]; exact hlt2)
          rw [B.out.1, B.out.2, if_neg hc] at this
          rw [← A.out, this]
          rfl
      · clear h1 h2
        have : m = k := by omega
        go_wp2
        go_ret
        refine ⟨?_, rfl⟩
        have hx := H0.out.1
        have hy := H0.out.2
        rw [← A.out, List.drop_eq_nil_of_le (show ys.length ≤ k by omega), List.drop_eq_getElem_cons (show k < xs.length by omega)]
        rfl
    · have : n = k := by omega
      clear h1 h2
      by_cases hlt2 : n < m
      · go_wp2
        go_ret
        refine ⟨?_, rfl⟩
        have hx := H0.out.1
        have hy := H0.out.2
        rw [← A.out, List.drop_eq_nil_of_le (show xs.length ≤ k by omega), List.drop_eq_getElem_cons (show k < ys.length by omega)]
        rfl
      · go_wp2
        go_ret
        refine ⟨?_, rfl⟩
        have hx := H0.out.1
        have hy := H0.out.2
        rw [← A.out, List.drop_eq_nil_of_le (show xs.length ≤ k by omega), List.drop_eq_nil_of_le (show ys.length ≤ k by omega)]
        rfl
theorem walk_CompareR (xs ys : List Int) (v1 v2 : Value) (w : World) (h1 : ReadI w v1 xs (fun _ _ => True)) (h2 : ReadI w v2 ys (fun _ _ => True)) : Calls Try.prog 22 #[v1, v2] w fun e w' => e = .returned (.int .i64 (cmpL xs ys)) ∧ w' = w := by
  obtain ⟨A1, n, c, b1, o1, rfl, hn, hl, ha, hc⟩ := h1
  obtain ⟨A2, m, d, b2, o2, rfl, hm, hl2, ha2, hc2⟩ := h2
  unfold maxLen at hl hl2
  exact walk_Compare A1 A2 b1 o1 n c b2 o2 m d xs ys w hn hm (by omega) (by omega) (fun h => (ha h).1) (fun h => (ha2 h).1) (fun j hj => (hc j hj).2) (fun j hj => (hc2 j hj).2)
theorem srt_some {l : List (List Int)} {r : List (List Int)} (h : ifA (l.length < 4611686018427387904) (some (sortL l)) = some r) : l.length < 4611686018427387904 ∧ sortL l = r := by
  unfold ifA at h
  split at h
  · exact ⟨‹_›, Option.some.inj h⟩
  · cases h
theorem srt_spec {ng : Nat} {G0 : Nat → Option Obj} : ∀ x : List (List Int), x.length < 4611686018427387904 → SpecU Try.prog ng G0 21 [.slc .unq 1 (x.map (rowE .own)), .fn 22 []] (.tup [.tup [], .slc .unq 1 ((sortL x).map (rowE .own))]) :=
  sort_spec (.inl rfl) laysSort rfl Try.func21 (by kernel_rfl) rfl (fun args w => run_callFunc Try.func22 (by kernel_rfl) rfl _ _) (AnyF.slices_SortFunc_none { laysSort with }) walk_CompareR
end Go.Proofs.Ytkbhcieejpbjpaa
