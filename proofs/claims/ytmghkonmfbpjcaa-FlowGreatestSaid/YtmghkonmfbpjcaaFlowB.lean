/- flowBegun: true, in whatever memory. -/
import Derived.Test.YtmghkonmfbpjcaaSolve
namespace Go.Proofs.Ytmghkonmfbpjcaa
set_option linter.unusedVariables false
set_option linter.unusedSimpArgs false
open Go.RowKit
set_option maxHeartbeats 4000000

def smallL : List Nd := [⟨9, 0, 0, 0, 1, 0⟩, ⟨9, 1, 0, 0, 2, 0⟩, ⟨11, 0, 0, 0, 3, 5⟩, ⟨3, 2, 0, 1, 4, 0⟩, ⟨10, 0, 2, 0, 5, 0⟩, ⟨3, 2, 0, 1, 6, 0⟩, ⟨12, 0, 2, 0, 0, 0⟩]

theorem small_any (w : World) : Calls Try.prog 54 #[] w fun e w' => ∃ g, e = .returned (.agg #[.int .i64 3, .slice (some ⟨g, 0, none⟩) 7 7]) ∧ NodesAt w' (some ⟨g, 0, none⟩) smallL ∧ Below w.heap.size w w' := by
  go_enter Try.func54, Try.ntmps54
  go_wp2
  refine bodyPost_ret (v := .agg #[.int .i64 3, .slice (some ⟨w.heap.size + 1, 0, none⟩) 7 7]) (by simp [results, Try.results54, go_sem]) rfl ⟨_, rfl, ?_, (by repeat (first | (with_reducible exact Below.refl _ _) | (with_reducible assumption) | (with_reducible refine Below.drew ?_) | (with_reducible refine below_drewN ?_ _) | (with_reducible refine Below.alloc ?_ (by (try simp only [World.size_alloc, World.size_setCell, World.size_drew, World.heap_drewN]); (first | done | omega | ((try simp only [World.size_alloc, World.size_setCell, World.size_drew, World.heap_drewN] at *); omega))) _) | (with_reducible refine Below.setCell ?_ (by (try simp only [World.size_alloc, World.size_setCell, World.size_drew, World.heap_drewN]); (first | done | omega | ((try simp only [World.size_alloc, World.size_setCell, World.size_drew, World.heap_drewN] at *); omega))) _) | (with_reducible refine Below.trans ?_ (Below.mono (by assumption) (by (try simp only [World.size_alloc, World.size_setCell, World.size_drew, World.heap_drewN]); (first | done | omega | ((try simp only [World.size_alloc, World.size_setCell, World.size_drew, World.heap_drewN] at *); omega)))))))⟩
  refine NodesAt.mk (by simp) ?_
  intro i n hi
  rcases i with _ | _ | _ | _ | _ | _ | _ | i
  all_goals simp [smallL] at hi
  all_goals subst hi
  all_goals simp [Nd.lies]

def yes7 : List Bool := [true, true, true, true, true, true, true]
def no7 : List Bool := [false, false, false, false, false, false, false]
def end7 : List Bool := [false, false, false, false, false, false, true]
theorem fchk7 : fchk 3 smallL 7 7 7 7 = 0 := by decide
theorem great7 : Great (flowS true false end7 yes7 no7 yes7 smallL) 7 yes7 :=
  ⟨⟨rfl, by decide⟩, Above.start rfl (by decide)⟩
theorem holds7 : holdsB (flowS false false no7 yes7 no7 yes7 smallL) 7 yes7 = false := by decide
theorem vals7 (w : World) (bs : List Bool) (cs : Array Value) (g : Nat) (h : Blk w g 4 cs) (hc : cs = (bools bs).toArray) : ValsAt w (some ⟨g, 0, none⟩) (bools bs) := by
  subst hc
  refine ValsAt.mk h.lt fun i v hi => ?_
  rw [Nat.zero_add, h.cell]
  simpa using hi

theorem flowBegun_any (w : World) : Calls Try.prog 16 #[] w fun e w' => e = .returned (.bool true) ∧ Below w.heap.size w w' := by
  obtain ⟨ib, hbi, hbz, hbs, hbb⟩ := info_parts infoBool
  have hmk7 : ∀ W : World, (Instr.makeSlice 25 (.int .i64 7) (.int .i64 7)).run Try.prog W = .ok (.slice (some ⟨W.heap.size, 0, none⟩) 7 7) (W.alloc (.cells #[.bool false, .bool false, .bool false, .bool false, .bool false, .bool false, .bool false] 4)) := fun _ => by kernel_rfl
  go_enter Try.func16, Try.ntmps16
  go_wp2_with fail
  obtain ⟨W0, hW0⟩ : ∃ W0 : World, W0 = (((w.alloc (.cells #[.bool false, .bool false, .bool false, .bool false, .bool false, .bool false, .bool false] 4)).alloc (.cells #[.bool true, .bool true, .bool true, .bool true, .bool true, .bool true, .bool true] 4)).alloc (.cells #[.bool false, .bool false, .bool false, .bool false, .bool false, .bool false, .bool true] 4)) := ⟨_, rfl⟩
  rw [← hW0]
  have vN : ValsAt W0 (some ⟨w.heap.size, 0, none⟩) (bools no7) := vals7 _ _ #[.bool false, .bool false, .bool false, .bool false, .bool false, .bool false, .bool false] _ (by rw [hW0]; exact (by repeat (first | ((with_reducible refine Blk.new' ?_); exact (by (try simp only [World.size_alloc, World.size_setCell, World.size_drew, World.heap_drewN]); (first | done | omega | ((try simp only [World.size_alloc, World.size_setCell, World.size_drew, World.heap_drewN] at *); omega)))) | (with_reducible refine Blk.drew ?_) | (with_reducible refine Blk.drewN ?_ _) | (with_reducible refine Blk.alloc ?_ _) | with_reducible assumption))) rfl
  have vY : ValsAt W0 (some ⟨w.heap.size + 1, 0, none⟩) (bools yes7) := vals7 _ _ #[.bool true, .bool true, .bool true, .bool true, .bool true, .bool true, .bool true] _ (by rw [hW0]; exact (by repeat (first | ((with_reducible refine Blk.new' ?_); exact (by (try simp only [World.size_alloc, World.size_setCell, World.size_drew, World.heap_drewN]); (first | done | omega | ((try simp only [World.size_alloc, World.size_setCell, World.size_drew, World.heap_drewN] at *); omega)))) | (with_reducible refine Blk.drew ?_) | (with_reducible refine Blk.drewN ?_ _) | (with_reducible refine Blk.alloc ?_ _) | with_reducible assumption))) rfl
  have vE : ValsAt W0 (some ⟨w.heap.size + 1 + 1, 0, none⟩) (bools end7) := vals7 _ _ #[.bool false, .bool false, .bool false, .bool false, .bool false, .bool false, .bool true] _ (by rw [hW0]; exact (by repeat (first | ((with_reducible refine Blk.new' ?_); exact (by (try simp only [World.size_alloc, World.size_setCell, World.size_drew, World.heap_drewN]); (first | done | omega | ((try simp only [World.size_alloc, World.size_setCell, World.size_drew, World.heap_drewN] at *); omega)))) | (with_reducible refine Blk.drew ?_) | (with_reducible refine Blk.drewN ?_ _) | (with_reducible refine Blk.alloc ?_ _) | with_reducible assumption))) rfl
  have hB0 : Below w.heap.size w W0 := by rw [hW0]; exact (by repeat (first | (with_reducible exact Below.refl _ _) | (with_reducible assumption) | (with_reducible refine Below.drew ?_) | (with_reducible refine below_drewN ?_ _) | (with_reducible refine Below.alloc ?_ (by (try simp only [World.size_alloc, World.size_setCell, World.size_drew, World.heap_drewN]); (first | done | omega | ((try simp only [World.size_alloc, World.size_setCell, World.size_drew, World.heap_drewN] at *); omega))) _) | (with_reducible refine Below.setCell ?_ (by (try simp only [World.size_alloc, World.size_setCell, World.size_drew, World.heap_drewN]); (first | done | omega | ((try simp only [World.size_alloc, World.size_setCell, World.size_drew, World.heap_drewN] at *); omega))) _) | (with_reducible refine Below.trans ?_ (Below.mono (by assumption) (by (try simp only [World.size_alloc, World.size_setCell, World.size_drew, World.heap_drewN]); (first | done | omega | ((try simp only [World.size_alloc, World.size_setCell, World.size_drew, World.heap_drewN] at *); omega)))))))
  have hz0 := hB0.size
  clear hW0 hmk7 hbi hbz hbs hbb
  refine (small_any W0).mono ?_
  rintro e w1 ⟨g1, rfl, hN1, hb1⟩
  have hz1 := hb1.size
  go_wp2_with fail
  refine (Solve_ok 3 (some ⟨g1, 0, none⟩) smallL 7 true false _ _ _ _ 7 7 7 7 7 7 7 7 w1 hN1 (by simp [smallL, maxLen]) end7 yes7 no7 yes7 (vE.below hb1) (vY.below hb1) (vN.below hb1) (vY.below hb1) rfl rfl rfl rfl fchk7).mono ?_
  rintro e w2 ⟨x, v, hgx, rfl, hrx, hb2⟩
  have hx : x = yes7 := Great.unique hgx great7
  subst hx
  obtain ⟨X, xc, rfl, _, _⟩ := hrx.shape
  have hz2 := hb2.size
  have hb12 : Below W0.heap.size W0 w2 := hb1.trans (hb2.mono hz1)
  go_wp2_with fail
  refine (small_any w2).mono ?_
  rintro e w3 ⟨g3, rfl, hN3, hb3⟩
  have hz3 := hb3.size
  have hb13 : Below W0.heap.size W0 w3 := hb12.trans (hb3.mono (by omega))
  go_wp2_with fail
  refine (Holds_ok 3 (some ⟨g3, 0, none⟩) smallL 7 false false _ _ _ _ _ 7 7 7 7 7 7 7 7 7 7 w3 hN3 (by simp [smallL, maxLen]) no7 yes7 no7 yes7 yes7 (vN.below hb13) (vY.below hb13) (vN.below hb13) (vY.below hb13) (vY.below hb13) rfl rfl rfl rfl rfl fchk7 rfl).mono ?_
  rintro e w4 ⟨rfl, hb4⟩
  have hz4 := hb4.size
  have hb14 : Below W0.heap.size W0 w4 := hb13.trans (hb4.mono (by omega))
  have hrx4 : Row w4 w1.heap.size 4 (.slice X 7 xc) (bools yes7) := (hrx.below' hb3).below' hb4
  have hh : holdsB (flowS false false no7 yes7 no7 yes7 smallL) smallL.length yes7 = false := holds7
  rw [hh]
  go_wp2_with fail
  refine (SameBools_any X (some ⟨w.heap.size + 1, 0, none⟩) xc 7 yes7 yes7 w4 hrx4.vals (vY.below hb14) (by simp [yes7, maxLen]) (by simp [yes7, maxLen])).mono ?_
  rintro e w5 ⟨rfl, d, rfl⟩
  go_wp2_with fail
  go_ret
  exact ⟨rfl, (by repeat (first | (with_reducible exact Below.refl _ _) | (with_reducible assumption) | (with_reducible refine Below.drew ?_) | (with_reducible refine below_drewN ?_ _) | (with_reducible refine Below.alloc ?_ (by (try simp only [World.size_alloc, World.size_setCell, World.size_drew, World.heap_drewN]); (first | done | omega | ((try simp only [World.size_alloc, World.size_setCell, World.size_drew, World.heap_drewN] at *); omega))) _) | (with_reducible refine Below.setCell ?_ (by (try simp only [World.size_alloc, World.size_setCell, World.size_drew, World.heap_drewN]); (first | done | omega | ((try simp only [World.size_alloc, World.size_setCell, World.size_drew, World.heap_drewN] at *); omega))) _) | (with_reducible refine Below.trans ?_ (Below.mono (by assumption) (by (try simp only [World.size_alloc, World.size_setCell, World.size_drew, World.heap_drewN]); (first | done | omega | ((try simp only [World.size_alloc, World.size_setCell, World.size_drew, World.heap_drewN] at *); omega)))))))⟩
end Go.Proofs.Ytmghkonmfbpjcaa
