/- Two numbers in order, each once: what slices.Sort and slices.Compact make of a list of two. -/
import Derived.Test.YtmghkonmfbpjcaaTab
import Derived.Test.YtmghkonmfbpjcaaOps
import Derived.Deep.QuietTactic
import Derived.Deep.Cut
import Derived.LoopN
import Derived.Lib.SliceRun
namespace Go.Proofs.Ytmghkonmfbpjcaa
set_option linter.unusedVariables false
set_option linter.unusedSimpArgs false
open Go.RowKit
set_option maxHeartbeats 4000000
theorem Row.cut {w : World} {B g o n cap : Nat} {e : TypeId} {xs : List Value} (h : Row w B e (.slice (some ⟨g, o, none⟩) n cap) xs) (m : Nat) (hm : m ≤ xs.length) : Row w B e (.slice (some ⟨g, o, none⟩) m cap) (xs.take m) := by
  rcases h with ⟨hv, _⟩ | ⟨g', o', cap', cur, hv, hb, hh, h1, h2, h3, hc⟩
  · cases hv
  · injection hv with hA hn hcp
    injection hA with hA
    injection hA with hg ho
    subst hg ho hn hcp
    refine .inr ⟨g, o, cap, cur, by rw [List.length_take, Nat.min_eq_left hm], hb, hh, by rw [List.length_take]; omega, h2, h3, fun j x hj => hc j x ?_⟩
    rw [List.getElem?_take] at hj
    split at hj
    · exact hj
    · cases hj
attribute [local irreducible] Row madeCells

theorem isNaN_any (x : Int) (w : World) : Calls Try.prog 123 #[.int .i64 x] w fun e w' => e = .returned (.bool false) ∧ w' = w := by
  go_enter Try.func123, Try.ntmps123
  go_wp2
  all_goals go_tidy
  all_goals go_ret
  all_goals exact ⟨ret_bool (by simp), rfl⟩
theorem Less_any (x y : Int) (w : World) : Calls Try.prog 130 #[.int .i64 x, .int .i64 y] w fun e w' => e = .returned (.bool (decide (x < y))) ∧ w' = w := by
  have hx := isNaN_any x w
  have hy := isNaN_any y w
  have HX := hide hx
  have HY := hide hy
  clear hx hy
  go_enter Try.func130, Try.ntmps130
  go_wp2_with (go_at_call 123; first | (refine (HX.out).mono ?_; rintro e w1 ⟨rfl, rfl⟩) | (refine (HY.out).mono ?_; rintro e w1 ⟨rfl, rfl⟩))
  all_goals go_tidy
  all_goals go_ret
  all_goals exact ⟨ret_bool (by simp), rfl⟩
set_option maxRecDepth 100000 in
theorem Len64_two (w : World) : Calls Try.prog 122 #[.int .u64 2] w fun e w' => (∃ v, e = .returned v) ∧ w' = w := by
  go_enter Try.func122, Try.ntmps122
  go_wp2_with fail
  all_goals go_ret
  all_goals exact ⟨⟨_, rfl⟩, rfl⟩
theorem Len_two (w : World) : Calls Try.prog 107 #[.int .u64 2] w fun e w' => (∃ v, e = .returned v) ∧ w' = w := by
  go_enter Try.func107, Try.ntmps107
  go_wp2_with fail
  refine (Len64_two w).mono ?_
  rintro e w1 ⟨⟨v, rfl⟩, rfl⟩
  go_wp2_with fail
  go_ret
  exact ⟨⟨_, rfl⟩, rfl⟩
theorem row_two {B g : Nat} {x y : Int} {w : World} (hr : Row w B 3 (.slice (some ⟨g, 0, none⟩) 2 2) (ints [x, y])) :
    w.cell? ⟨g, 0, none⟩ = some (.int .i64 x) ∧ w.frozen? ⟨g, 0, none⟩ = false ∧ w.cell? ⟨g, 1, none⟩ = some (.int .i64 y) ∧ w.frozen? ⟨g, 1, none⟩ = false ∧ B ≤ g ∧ g < w.heap.size := by
  obtain ⟨g0, o0, cp0, u0, e0, hb0, hl0, hu0, c0, f0⟩ := hr.get (k := 0) (by simp [ints])
  obtain ⟨g1, o1, cp1, u1, e1, _, _, hu1, c1, f1⟩ := hr.get (k := 1) (by simp [ints])
  obtain ⟨rfl, rfl⟩ : g = g0 ∧ 0 = o0 := by
    injection e0 with e0 _ _
    injection e0 with e0
    injection e0 with e0 e0' _
    exact ⟨e0, e0'⟩
  obtain ⟨rfl, rfl⟩ : g = g1 ∧ 0 = o1 := by
    injection e1 with e1 _ _
    injection e1 with e1
    injection e1 with e1 e1' _
    exact ⟨e1, e1'⟩
  clear e0 e1
  simp only [ints, List.map_cons, List.map_nil, List.getElem?_cons_zero, List.getElem?_cons_succ, Option.some.injEq] at hu0 hu1
  subst hu0 hu1
  simp only [Nat.zero_add] at c0 f0 c1 f1
  exact ⟨c0, f0, c1, f1, hb0, hl0⟩
def sort2 (x y : Int) : List Int := if y < x then [y, x] else [x, y]
theorem insertion_two {B g : Nat} {x y : Int} {w : World} (hr : Row w B 3 (.slice (some ⟨g, 0, none⟩) 2 2) (ints [x, y])) :
    Calls Try.prog 124 #[.slice (some ⟨g, 0, none⟩) 2 2, .int .i64 0, .int .i64 2] w fun e w' => e = .returned (.tuple #[]) ∧ Row w' B 3 (.slice (some ⟨g, 0, none⟩) 2 2) (ints (sort2 x y)) ∧ Below B w w' := by
  obtain ⟨c0, f0, c1, f1, hb0, hl0⟩ := row_two hr
  have hL := fun W => Less_any y x W
  have HL := hide hL
  have HR := hide hr
  clear hL hr
  have h10 : decide ((1 : Int) > 0) = true := rfl
  cases hlt : decide (y < x)
  case false =>
    go_enter Try.func124, Try.ntmps124
    go_wp2_with fail
    refine wp_loop_rounds 2 ?_
    rw [rounds_succ]
    go_wp2_with fail
    refine wp_loop_rounds 2 ?_
    rw [rounds_succ]
    go_upto_region 4 with fail
    go_quiet ((go_at_call 130; exact Calls.quiet_of_same (HL.out _)))
    go_wp2_with fail
    rw [rounds_succ]
    go_wp2_with fail
    go_tidy
    go_end0
    have hs : sort2 x y = [x, y] := if_neg (by simpa using hlt)
    exact ⟨rfl, by rw [hs]; exact HR.out.drewN _, (by repeat (first | (with_reducible exact Below.refl _ _) | (with_reducible assumption) | (with_reducible refine Below.drew ?_) | (with_reducible refine below_drewN ?_ _) | (with_reducible refine Below.alloc ?_ (by (try simp only [World.size_alloc, World.size_setCell, World.size_drew, World.heap_drewN]); (first | done | omega | ((try simp only [World.size_alloc, World.size_setCell, World.size_drew, World.heap_drewN] at *); omega))) _) | (with_reducible refine Below.setCell ?_ (by (try simp only [World.size_alloc, World.size_setCell, World.size_drew, World.heap_drewN]); (first | done | omega | ((try simp only [World.size_alloc, World.size_setCell, World.size_drew, World.heap_drewN] at *); omega))) _) | (with_reducible refine Below.trans ?_ (Below.mono (by assumption) (by (try simp only [World.size_alloc, World.size_setCell, World.size_drew, World.heap_drewN]); (first | done | omega | ((try simp only [World.size_alloc, World.size_setCell, World.size_drew, World.heap_drewN] at *); omega)))))))⟩
  case true =>
    have h00 : decide ((0 : Int) > 0) = false := rfl
    go_enter Try.func124, Try.ntmps124
    go_wp2_with fail
    refine wp_loop_rounds 2 ?_
    rw [rounds_succ]
    go_wp2_with fail
    refine wp_loop_rounds 2 ?_
    rw [rounds_succ]
    go_upto_region 4 with fail
    go_quiet ((go_at_call 130; exact Calls.quiet_of_same (HL.out _)))
    go_wp2_with fail
    go_upto_region 6 with fail
    go_region
    all_goals as_aux_lemma =>
      go_wp2_with fail
      rw [rounds_succ]
      go_upto_region 4 with fail
      go_quiet (fail)
      go_wp2_with fail
      rw [rounds_succ]
      go_wp2_with fail
      go_tidy
      go_end0
      have hs : sort2 x y = [y, x] := if_pos (by simpa using hlt)
      have h1 : ∀ n m, Row ((((w.drewN n).setCell ⟨g, 1, none⟩ (.int .i64 x)).setCell ⟨g, 0, none⟩ (.int .i64 y)).drewN m) B 3 (.slice (some ⟨g, 0, none⟩) 2 2) (ints [y, x]) := fun n m => by
        have h := ((HR.out.drewN n).store 1 (.int .i64 x)).store 0 (.int .i64 y)
        simp only [Nat.zero_add, ints, List.map_cons, List.map_nil, List.set_cons_succ, List.set_cons_zero] at h
        exact h.drewN m
      exact ⟨rfl, by rw [hs]; exact h1 _ _, (by repeat (first | (with_reducible exact Below.refl _ _) | (with_reducible assumption) | (with_reducible refine Below.drew ?_) | (with_reducible refine below_drewN ?_ _) | (with_reducible refine Below.alloc ?_ (by (try simp only [World.size_alloc, World.size_setCell, World.size_drew, World.heap_drewN]); (first | done | omega | ((try simp only [World.size_alloc, World.size_setCell, World.size_drew, World.heap_drewN] at *); omega))) _) | (with_reducible refine Below.setCell ?_ (by (try simp only [World.size_alloc, World.size_setCell, World.size_drew, World.heap_drewN]); (first | done | omega | ((try simp only [World.size_alloc, World.size_setCell, World.size_drew, World.heap_drewN] at *); omega))) _) | (with_reducible refine Below.trans ?_ (Below.mono (by assumption) (by (try simp only [World.size_alloc, World.size_setCell, World.size_drew, World.heap_drewN]); (first | done | omega | ((try simp only [World.size_alloc, World.size_setCell, World.size_drew, World.heap_drewN] at *); omega)))))))⟩
theorem pdq_two {B g : Nat} {x y : Int} {w : World} (v : Value) (hr : Row w B 3 (.slice (some ⟨g, 0, none⟩) 2 2) (ints [x, y])) :
    Calls Try.prog 112 #[.slice (some ⟨g, 0, none⟩) 2 2, .int .i64 0, .int .i64 2, v] w fun e w' => e = .returned (.tuple #[]) ∧ Row w' B 3 (.slice (some ⟨g, 0, none⟩) 2 2) (ints (sort2 x y)) ∧ Below B w w' := by
  have HI := hide (insertion_two hr)
  clear hr
  go_enter Try.func112, Try.ntmps112
  go_wp2_with fail
  refine wp_loop_rounds 1 ?_
  rw [rounds_succ]
  go_wp2_with fail
  refine (HI.out).mono ?_
  rintro e w1 ⟨rfl, hr1, hb1⟩
  go_wp2_with fail
  (try simp only [Exit.inBlock, Exit.then])
  refine bodyPost_ret (results_none rfl _ _ _) rfl ?_
  exact ⟨rfl, hr1, hb1⟩
theorem Sort_two {B g : Nat} {x y : Int} {w : World} (hr : Row w B 3 (.slice (some ⟨g, 0, none⟩) 2 2) (ints [x, y])) :
    Calls Try.prog 101 #[.slice (some ⟨g, 0, none⟩) 2 2] w fun e w' => e = .returned (.tuple #[]) ∧ Row w' B 3 (.slice (some ⟨g, 0, none⟩) 2 2) (ints (sort2 x y)) ∧ Below B w w' := by
  have hI := fun v => pdq_two v hr
  have HI := hide hI
  clear hr hI
  go_enter Try.func101, Try.ntmps101
  go_wp2_with fail
  refine (Len_two w).mono ?_
  rintro e w1 ⟨⟨v, rfl⟩, rfl⟩
  go_wp2_with fail
  refine (HI.out v).mono ?_
  rintro e w1 ⟨rfl, hr1, hb1⟩
  go_wp2_with fail
  go_tidy
  go_end0
  exact ⟨rfl, hr1, hb1⟩
theorem zeroInt (w : World) : (zeroValue 3).run Try.prog w = .ok (.int .i64 0) w := by kernel_rfl
/-- of two that lie in order, each once -/
def once2 (x y : Int) : List Int := if x = y then [x] else [x, y]
set_option maxRecDepth 100000 in
theorem Compact_two {B g : Nat} {x y : Int} {w : World} (hr : Row w B 3 (.slice (some ⟨g, 0, none⟩) 2 2) (ints [x, y])) :
    Calls Try.prog 102 #[.slice (some ⟨g, 0, none⟩) 2 2] w fun e w' => e = .returned (.slice (some ⟨g, 0, none⟩) (once2 x y).length 2) ∧ Row w' B 3 (.slice (some ⟨g, 0, none⟩) (once2 x y).length 2) (ints (once2 x y)) ∧ Below B w w' := by
  obtain ⟨c0, f0, c1, f1, hb0, hl0⟩ := row_two hr
  have HR := hide hr
  clear hr
  cases hxy : (y == x)
  case false =>
    have ho : once2 x y = [x, y] := if_neg (fun e => by simp [e] at hxy)
    rw [ho]
    go_enter Try.func102, Try.ntmps102
    go_wp2_with fail
    refine wp_loop_rounds 2 ?_
    rw [rounds_succ]
    go_upto_region 6 with fail
    go_quiet (fail)
    go_wp2_with fail
    rw [rounds_succ]
    go_wp2_with fail
    go_ret
    exact ⟨rfl, HR.out.drewN _, (by repeat (first | (with_reducible exact Below.refl _ _) | (with_reducible assumption) | (with_reducible refine Below.drew ?_) | (with_reducible refine below_drewN ?_ _) | (with_reducible refine Below.alloc ?_ (by (try simp only [World.size_alloc, World.size_setCell, World.size_drew, World.heap_drewN]); (first | done | omega | ((try simp only [World.size_alloc, World.size_setCell, World.size_drew, World.heap_drewN] at *); omega))) _) | (with_reducible refine Below.setCell ?_ (by (try simp only [World.size_alloc, World.size_setCell, World.size_drew, World.heap_drewN]); (first | done | omega | ((try simp only [World.size_alloc, World.size_setCell, World.size_drew, World.heap_drewN] at *); omega))) _) | (with_reducible refine Below.trans ?_ (Below.mono (by assumption) (by (try simp only [World.size_alloc, World.size_setCell, World.size_drew, World.heap_drewN]); (first | done | omega | ((try simp only [World.size_alloc, World.size_setCell, World.size_drew, World.heap_drewN] at *); omega)))))))⟩
  case true =>
    have hcl : ∀ n, (Builtin.clear_ #[56] 0 #[.slice (some ⟨g, 1, none⟩) 1 1]).run Try.prog (w.drewN n) = .ok (.tuple #[]) ((w.drewN n).setCell ⟨g, 1, none⟩ (.int .i64 0)) := fun n => by
      have hc : ∀ j, j < 1 → ((w.drewN n).cell? ⟨g, 1 + j, none⟩).isSome = true := fun j hj => by
        have h0 : j = 0 := by omega
        subst h0
        exact Option.isSome_iff_exists.2 ⟨_, c1⟩
      have hf : ∀ j, j < 1 → (w.drewN n).frozen? ⟨g, 1 + j, none⟩ = false := fun j hj => by
        have h0 : j = 0 := by omega
        subst h0
        exact f1
      have h := Go.Lib.run_clear_slice (P := Try.prog) (w.drewN n) 56 3 0 (.int .i64 0) Try.underlying56 zeroInt rfl rfl g 1 1 1 (by omega) hc hf
      exact h
    have ho : once2 x y = [x] := if_pos (by have := eq_of_beq hxy; exact this.symm)
    rw [ho]
    go_enter Try.func102, Try.ntmps102
    go_wp2_with fail
    refine wp_loop_rounds 2 ?_
    rw [rounds_succ]
    go_upto_region 6 with fail
    go_quiet (fail)
    go_wp2_with fail
    refine wp_loop_rounds 1 ?_
    rw [rounds_succ]
    go_wp2_with fail
    go_ret
    have h2 : ∀ n, Row ((w.drewN n).setCell ⟨g, 1, none⟩ (.int .i64 0)) B 3 (.slice (some ⟨g, 0, none⟩) 1 2) (ints [x]) := fun n => by
      have h := ((HR.out.drewN n).store 1 (.int .i64 0)).cut 1 (by simp [ints])
      simp only [Nat.zero_add, ints, List.map_cons, List.map_nil, List.set_cons_succ, List.set_cons_zero, List.take_succ_cons, List.take_zero] at h
      exact h
    exact ⟨rfl, h2 _, (by repeat (first | (with_reducible exact Below.refl _ _) | (with_reducible assumption) | (with_reducible refine Below.drew ?_) | (with_reducible refine below_drewN ?_ _) | (with_reducible refine Below.alloc ?_ (by (try simp only [World.size_alloc, World.size_setCell, World.size_drew, World.heap_drewN]); (first | done | omega | ((try simp only [World.size_alloc, World.size_setCell, World.size_drew, World.heap_drewN] at *); omega))) _) | (with_reducible refine Below.setCell ?_ (by (try simp only [World.size_alloc, World.size_setCell, World.size_drew, World.heap_drewN]); (first | done | omega | ((try simp only [World.size_alloc, World.size_setCell, World.size_drew, World.heap_drewN] at *); omega))) _) | (with_reducible refine Below.trans ?_ (Below.mono (by assumption) (by (try simp only [World.size_alloc, World.size_setCell, World.size_drew, World.heap_drewN]); (first | done | omega | ((try simp only [World.size_alloc, World.size_setCell, World.size_drew, World.heap_drewN] at *); omega)))))))⟩
end Go.Proofs.Ytmghkonmfbpjcaa
