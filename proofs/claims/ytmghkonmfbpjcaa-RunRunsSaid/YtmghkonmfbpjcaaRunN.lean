/- The law RunRuns, walked. -/
import Derived.Test.YtmghkonmfbpjcaaRunL
import Derived.Test.YtmghkonmfbpjcaaRunR
import Derived.Test.YtmghkonmfbpjcaaRunZ
namespace Go.Proofs.Ytmghkonmfbpjcaa
set_option linter.unusedVariables false
set_option linter.unusedSimpArgs false
open Go.RowKit
set_option maxHeartbeats 8000000
attribute [local irreducible] Row CRow madeCells

set_option maxRecDepth 100000 in
theorem RunRuns_ok (regs : Int) (A : Option Addr) (l : List Nd) (cap : Nat) (Ai : Option Addr) (inp : List Int) (ci : Nat) (fuel : Int) (w : World) (hl : l.length ≤ maxLen) (hA : NodesAt w A l) (hI : ValsAt w Ai (ints inp)) (hic : inp.length ≤ ci ∧ ci ≤ maxLen) (h0 : runE regs l inp fuel = 0) :
    Calls Try.prog 8 #[.agg #[.int .i64 regs, .slice A l.length cap], .slice Ai inp.length ci, .int .i64 fuel] w fun e w' => e = .returned (.bool true) ∧ Below w.heap.size w w' := by
  obtain ⟨g1, g2, g3, g4⟩ := runE_ok h0
  obtain ⟨R, hR⟩ : ∃ R, R = runS regs l inp fuel := ⟨_, rfl⟩
  have hT : (runR regs l inp fuel.toNat).told = R := by rw [hR, runS, if_pos h0]
  have HRun := fun (V : World) (hV : Below w.heap.size w V) => hide (by
    have h := Run_any regs A l cap Ai inp ci fuel V hl (hA.below hV) (hI.below hV) hic
    unfold RunPost at h
    rw [h0, ← hR] at h
    exact h)
  have HErr := fun (V : World) (hV : Below w.heap.size w V) => hide (by
    have h := RunError_any regs A l cap Ai inp ci fuel V (hA.below hV) (by omega)
    rw [h0] at h
    exact h)
  have HOf := fun (V : World) (hV : Below w.heap.size w V) => hide (by
    have h := RunOf_any regs A l cap Ai inp ci fuel V (hA.below hV) (hI.below hV) (right_of_chk g1) g2 g3 g4
    unfold ROfPost at h
    rw [hT] at h
    exact h)
  have HB := fun V => hide (runBegun_any V)
  clear hR hT hA hI h0 g1 g2 g3 g4 hl hic
  go_enter Try.func8, Try.ntmps8
  go_wp2_with fail
  refine ((HRun _ (by repeat (first | (with_reducible exact Below.refl _ _) | (with_reducible assumption) | (with_reducible refine Below.drew ?_) | (with_reducible refine below_drewN ?_ _) | (with_reducible refine Below.alloc ?_ (by (try simp only [World.size_alloc, World.size_setCell, World.size_drew, World.heap_drewN]); (first | done | omega | ((try simp only [World.size_alloc, World.size_setCell, World.size_drew, World.heap_drewN] at *); omega))) _) | (with_reducible refine Below.setCell ?_ (by (try simp only [World.size_alloc, World.size_setCell, World.size_drew, World.heap_drewN]); (first | done | omega | ((try simp only [World.size_alloc, World.size_setCell, World.size_drew, World.heap_drewN] at *); omega))) _) | (with_reducible refine Below.trans ?_ (Below.mono (by assumption) (by (try simp only [World.size_alloc, World.size_setCell, World.size_drew, World.heap_drewN]); (first | done | omega | ((try simp only [World.size_alloc, World.size_setCell, World.size_drew, World.heap_drewN] at *); omega)))))))).out).mono ?_
  rintro e w1 ⟨hc1, u1, rfl, hr1⟩
  obtain ⟨O1, oc1, C1, cc1, rfl, hO1⟩ := hr1.rows
  have hB1 : Below w.heap.size w w1 := (by repeat (first | (with_reducible exact Below.refl _ _) | (with_reducible assumption) | (with_reducible refine Below.drew ?_) | (with_reducible refine below_drewN ?_ _) | (with_reducible refine Below.alloc ?_ (by (try simp only [World.size_alloc, World.size_setCell, World.size_drew, World.heap_drewN]); (first | done | omega | ((try simp only [World.size_alloc, World.size_setCell, World.size_drew, World.heap_drewN] at *); omega))) _) | (with_reducible refine Below.setCell ?_ (by (try simp only [World.size_alloc, World.size_setCell, World.size_drew, World.heap_drewN]); (first | done | omega | ((try simp only [World.size_alloc, World.size_setCell, World.size_drew, World.heap_drewN] at *); omega))) _) | (with_reducible refine Below.trans ?_ (Below.mono (by assumption) (by (try simp only [World.size_alloc, World.size_setCell, World.size_drew, World.heap_drewN]); (first | done | omega | ((try simp only [World.size_alloc, World.size_setCell, World.size_drew, World.heap_drewN] at *); omega)))))))
  have hP1 : Blk w1 w.heap.size 24 #[.int .i64 regs, .slice A l.length cap] := Blk.below (Blk.new' rfl) hc1 (by simp)
  have hy1 := hB1.size
  clear hr1 hc1
  go_upto_region 2 with fail
  obtain ⟨W2, hW2⟩ : ∃ W2, W2 = w1.alloc (.cells #[.slice O1 R.out.length oc1, .int .i64 R.ret, .bool R.ended, .int .i64 R.steps, .slice C1 R.cts.length cc1] 68) := ⟨_, rfl⟩
  have hb2 : Blk W2 w1.heap.size 68 #[.slice O1 R.out.length oc1, .int .i64 R.ret, .bool R.ended, .int .i64 R.steps, .slice C1 R.cts.length cc1] := by rw [hW2]; exact Blk.new' rfl
  have hB12 : Below w1.heap.size w1 W2 := by rw [hW2]; exact (Below.refl _ _).alloc (Nat.le_refl _) _
  have hP2 := hP1.below hB12 hP1.lt
  have hO2 := hO1.below hB12
  have hB2 := hB1.trans (hB12.mono hy1)
  have hy2 := hB2.size
  have p0 := hP2.cell 0
  have p1 := hP2.cell 1
  have lp2 := hP2.lt
  simp only [List.getElem?_toArray, List.getElem?_cons_zero, List.getElem?_cons_succ] at p0 p1
  rw [← hW2]
  obtain ⟨a1, ha1⟩ : ∃ a, a = w1.heap.size := ⟨_, rfl⟩
  rw [← ha1] at hb2 ⊢
  have ha1' : w.heap.size < a1 := by have := hP1.lt; omega
  have la2 := hb2.lt
  clear hW2 hP1 hB12 hB1 hy1
  go_wp2_with fail
  refine ((HErr _ hB2).out).mono ?_
  rintro e w3 ⟨rfl, hb3⟩
  have hP3 := hP2.below hb3 lp2
  have hb2' := hb2.below hb3 la2
  have hO3 := hO2.below hb3
  have hB3 := hB2.trans (hb3.mono hy2)
  have hy3 := hB3.size
  have q0 := hP3.cell 0
  have q1 := hP3.cell 1
  have lp3 := hP3.lt
  have la3 := hb2'.lt
  simp only [List.getElem?_toArray, List.getElem?_cons_zero, List.getElem?_cons_succ] at q0 q1
  have h13 : a1 < w3.heap.size := la3
  have nO1 := hO1.ne (g := w3.heap.size) (.inr (by have := hb3.size; omega))
  clear hP2 hb2 hO2 hB2 p0 p1 hb3 hO1 ha1
  go_wp2_with fail
  refine ((HOf _ (by repeat (first | (with_reducible exact Below.refl _ _) | (with_reducible assumption) | (with_reducible refine Below.drew ?_) | (with_reducible refine below_drewN ?_ _) | (with_reducible refine Below.alloc ?_ (by (try simp only [World.size_alloc, World.size_setCell, World.size_drew, World.heap_drewN]); (first | done | omega | ((try simp only [World.size_alloc, World.size_setCell, World.size_drew, World.heap_drewN] at *); omega))) _) | (with_reducible refine Below.setCell ?_ (by (try simp only [World.size_alloc, World.size_setCell, World.size_drew, World.heap_drewN]); (first | done | omega | ((try simp only [World.size_alloc, World.size_setCell, World.size_drew, World.heap_drewN] at *); omega))) _) | (with_reducible refine Below.trans ?_ (Below.mono (by assumption) (by (try simp only [World.size_alloc, World.size_setCell, World.size_drew, World.heap_drewN]); (first | done | omega | ((try simp only [World.size_alloc, World.size_setCell, World.size_drew, World.heap_drewN] at *); omega)))))))).out).mono ?_
  rintro e w4 ⟨hc4, u4, rfl, hr4⟩
  obtain ⟨O4, oc4, C4, cc4, rfl, hO4⟩ := hr4.rows
  have nO4 := hO4.ne (g := w3.heap.size) (.inl (by simp))
  have hB34 : Below w3.heap.size w3 w4 := ((Below.refl _ _).alloc (Nat.le_refl _) _).trans (hc4.mono (by simp))
  have hQ4 : Blk w4 w3.heap.size 68 #[.slice none 0 0, .int .i64 0, .bool false, .int .i64 0, .slice none 0 0] := Blk.below (Blk.new' rfl) hc4 (by simp)
  have hb4 := hb2'.below hB34 la3
  have hO5 := hO3.below hB34
  have hB4 := hB3.trans (hB34.mono hy3)
  have hy4 := hB4.size
  have d0 := hQ4.cell 0
  have d1 := hQ4.cell 1
  have d2 := hQ4.cell 2
  have d3 := hQ4.cell 3
  have d4 := hQ4.cell 4
  have f0 := hQ4.frozen 0
  have f1 := hQ4.frozen 1
  have f2 := hQ4.frozen 2
  have f3 := hQ4.frozen 3
  have f4 := hQ4.frozen 4
  have lq4 := hQ4.lt
  simp only [List.getElem?_toArray, List.getElem?_cons_zero, List.getElem?_cons_succ] at d0 d1 d2 d3 d4
  obtain ⟨a3, ha3⟩ : ∃ a, a = w3.heap.size := ⟨_, rfl⟩
  rw [← ha3] at d0 d1 d2 d3 d4 f0 f1 f2 f3 f4 lq4 nO1 nO4 hQ4 ⊢
  have n13 : ¬ (a1 = a3) := by omega
  have n31 : ¬ (a3 = a1) := by omega
  have hwa : w.heap.size ≤ a3 := by omega
  clear hP3 hb2' hO3 hB3 q0 q1 hc4 hr4 hB34 ha3 la3 lp3 hy3
  go_upto_region 6 with fail
  obtain ⟨X, hX⟩ : ∃ X, X = ((((w4.setCell ⟨a3, 0, none⟩ (.slice O4 R.out.length oc4)).setCell ⟨a3, 1, none⟩ (.int .i64 R.ret)).setCell ⟨a3, 2, none⟩ (.bool R.ended)).setCell ⟨a3, 3, none⟩ (.int .i64 R.steps)).setCell ⟨a3, 4, none⟩ (.slice C4 R.cts.length cc4) := ⟨_, rfl⟩
  have bX : Blk X a3 68 #[.slice O4 R.out.length oc4, .int .i64 R.ret, .bool R.ended, .int .i64 R.steps, .slice C4 R.cts.length cc4] := by rw [hX]; exact ((((hQ4.set_ 0 _).set_ 1 _).set_ 2 _).set_ 3 _).set_ 4 _
  have cX : Blk X a1 68 #[.slice O1 R.out.length oc1, .int .i64 R.ret, .bool R.ended, .int .i64 R.steps, .slice C1 R.cts.length cc1] := by rw [hX]; exact ((((hb4.far (p := ⟨a3, 0, none⟩) n13 _).far (p := ⟨a3, 1, none⟩) n13 _).far (p := ⟨a3, 2, none⟩) n13 _).far (p := ⟨a3, 3, none⟩) n13 _).far (p := ⟨a3, 4, none⟩) n13 _
  have rX := ((((hO4.far nO4.1 nO4.2 0 (.slice O4 R.out.length oc4)).far nO4.1 nO4.2 1 (.int .i64 R.ret)).far nO4.1 nO4.2 2 (.bool R.ended)).far nO4.1 nO4.2 3 (.int .i64 R.steps)).far nO4.1 nO4.2 4 (.slice C4 R.cts.length cc4)
  have sX := ((((hO5.far nO1.1 nO1.2 0 (.slice O4 R.out.length oc4)).far nO1.1 nO1.2 1 (.int .i64 R.ret)).far nO1.1 nO1.2 2 (.bool R.ended)).far nO1.1 nO1.2 3 (.int .i64 R.steps)).far nO1.1 nO1.2 4 (.slice C4 R.cts.length cc4)
  rw [← hX] at rX sX
  have hBX : Below w.heap.size w X := by rw [hX]; exact ((((hB4.setCell hwa _).setCell hwa _).setCell hwa _).setCell hwa _).setCell hwa _
  rw [← hX]
  have lX1 := bX.lt
  have lX2 := cX.lt
  clear hX hQ4 hb4 hO4 hO5 hB4 d0 d1 d2 d3 d4 f0 f1 f2 f3 f4 lq4 hy4
  go_wp2_with fail
  refine ((HB _).out).mono ?_
  rintro e Y ⟨rfl, hbY⟩
  have bY := bX.below hbY lX1
  have cY := cX.below hbY lX2
  have rY := rX.below hbY
  have sY := sX.below hbY
  have hBY := hBX.trans (hbY.mono hBX.size)
  have b0 := bY.cell 0
  have b1 := bY.cell 1
  have b2 := bY.cell 2
  have b3 := bY.cell 3
  have b4 := bY.cell 4
  have c0 := cY.cell 0
  have c1 := cY.cell 1
  have c2 := cY.cell 2
  have c3 := cY.cell 3
  have c4 := cY.cell 4
  simp only [List.getElem?_toArray, List.getElem?_cons_zero, List.getElem?_cons_succ] at b0 b1 b2 b3 b4 c0 c1 c2 c3 c4
  have HSm := hide (sY.same rY)
  have hYz := hBY.size
  clear bX cX rX sX hBX hbY bY cY rY sY
  go_wp2_with fail
  refine (HSm.out).mono ?_
  rintro e Z ⟨rfl, hbZ⟩
  go_wp2_with fail
  go_ret
  exact ⟨rfl, hBY.trans (hbZ.mono hYz)⟩
set_option maxRecDepth 100000 in
theorem RunRuns_err (regs : Int) (A : Option Addr) (l : List Nd) (cap : Nat) (Ai : Option Addr) (inp : List Int) (ci : Nat) (fuel : Int) (w : World) (hl : l.length ≤ maxLen) (hA : NodesAt w A l) (hI : ValsAt w Ai (ints inp)) (hic : inp.length ≤ ci ∧ ci ≤ maxLen) (h0 : runE regs l inp fuel ≠ 0) :
    Calls Try.prog 8 #[.agg #[.int .i64 regs, .slice A l.length cap], .slice Ai inp.length ci, .int .i64 fuel] w fun e w' => e = .returned (.bool true) ∧ Below w.heap.size w w' := by
  have hR : runS regs l inp fuel = noRs := by rw [runS, if_neg h0]
  have hne : (runE regs l inp fuel == 0) = false := by simpa using h0
  have HRun := fun (V : World) (hV : Below w.heap.size w V) => hide (by
    have h := Run_any regs A l cap Ai inp ci fuel V hl (hA.below hV) (hI.below hV) hic
    unfold RunPost at h
    rw [hR] at h
    exact h)
  have HErr := fun (V : World) (hV : Below w.heap.size w V) => hide (RunError_any regs A l cap Ai inp ci fuel V (hA.below hV) (by omega))
  have HB := fun V => hide (runBegun_any V)
  generalize runE regs l inp fuel = c at *
  clear hR hA hI h0 hl hic
  go_enter Try.func8, Try.ntmps8
  go_wp2_with fail
  refine ((HRun _ (by repeat (first | (with_reducible exact Below.refl _ _) | (with_reducible assumption) | (with_reducible refine Below.drew ?_) | (with_reducible refine below_drewN ?_ _) | (with_reducible refine Below.alloc ?_ (by (try simp only [World.size_alloc, World.size_setCell, World.size_drew, World.heap_drewN]); (first | done | omega | ((try simp only [World.size_alloc, World.size_setCell, World.size_drew, World.heap_drewN] at *); omega))) _) | (with_reducible refine Below.setCell ?_ (by (try simp only [World.size_alloc, World.size_setCell, World.size_drew, World.heap_drewN]); (first | done | omega | ((try simp only [World.size_alloc, World.size_setCell, World.size_drew, World.heap_drewN] at *); omega))) _) | (with_reducible refine Below.trans ?_ (Below.mono (by assumption) (by (try simp only [World.size_alloc, World.size_setCell, World.size_drew, World.heap_drewN]); (first | done | omega | ((try simp only [World.size_alloc, World.size_setCell, World.size_drew, World.heap_drewN] at *); omega)))))))).out).mono ?_
  rintro e w1 ⟨hc1, u1, rfl, hr1⟩
  obtain ⟨O1, oc1, C1, cc1, rfl, hO1⟩ := hr1.rows
  have hB1 : Below w.heap.size w w1 := (by repeat (first | (with_reducible exact Below.refl _ _) | (with_reducible assumption) | (with_reducible refine Below.drew ?_) | (with_reducible refine below_drewN ?_ _) | (with_reducible refine Below.alloc ?_ (by (try simp only [World.size_alloc, World.size_setCell, World.size_drew, World.heap_drewN]); (first | done | omega | ((try simp only [World.size_alloc, World.size_setCell, World.size_drew, World.heap_drewN] at *); omega))) _) | (with_reducible refine Below.setCell ?_ (by (try simp only [World.size_alloc, World.size_setCell, World.size_drew, World.heap_drewN]); (first | done | omega | ((try simp only [World.size_alloc, World.size_setCell, World.size_drew, World.heap_drewN] at *); omega))) _) | (with_reducible refine Below.trans ?_ (Below.mono (by assumption) (by (try simp only [World.size_alloc, World.size_setCell, World.size_drew, World.heap_drewN]); (first | done | omega | ((try simp only [World.size_alloc, World.size_setCell, World.size_drew, World.heap_drewN] at *); omega)))))))
  have hP1 : Blk w1 w.heap.size 24 #[.int .i64 regs, .slice A l.length cap] := Blk.below (Blk.new' rfl) hc1 (by simp)
  have hy1 := hB1.size
  clear hr1 hc1
  go_upto_region 2 with fail
  obtain ⟨W2, hW2⟩ : ∃ W2, W2 = w1.alloc (.cells #[.slice O1 noRs.out.length oc1, .int .i64 noRs.ret, .bool noRs.ended, .int .i64 noRs.steps, .slice C1 noRs.cts.length cc1] 68) := ⟨_, rfl⟩
  have hb2 : Blk W2 w1.heap.size 68 #[.slice O1 noRs.out.length oc1, .int .i64 noRs.ret, .bool noRs.ended, .int .i64 noRs.steps, .slice C1 noRs.cts.length cc1] := by rw [hW2]; exact Blk.new' rfl
  have hB12 : Below w1.heap.size w1 W2 := by rw [hW2]; exact (Below.refl _ _).alloc (Nat.le_refl _) _
  have hP2 := hP1.below hB12 hP1.lt
  have hO2 := hO1.below hB12
  have hB2 := hB1.trans (hB12.mono hy1)
  have hy2 := hB2.size
  have p0 := hP2.cell 0
  have p1 := hP2.cell 1
  have lp2 := hP2.lt
  simp only [List.getElem?_toArray, List.getElem?_cons_zero, List.getElem?_cons_succ] at p0 p1
  rw [← hW2]
  obtain ⟨a1, ha1⟩ : ∃ a, a = w1.heap.size := ⟨_, rfl⟩
  rw [← ha1] at hb2 ⊢
  have la2 := hb2.lt
  clear hW2 hP1 hB12 hB1 hy1 hO1 ha1
  go_wp2_with fail
  refine ((HErr _ hB2).out).mono ?_
  rintro e w3 ⟨rfl, hb3⟩
  have hb2' := hb2.below hb3 la2
  have hO3 := hO2.below hb3
  have hB3 := hB2.trans (hb3.mono hy2)
  have hy3 := hB3.size
  have la3 := hb2'.lt
  clear hP2 hb2 hO2 hB2 p0 p1 hb3
  go_upto_region 6 with fail
  obtain ⟨X, hX⟩ : ∃ X, X = w3.alloc (.cells #[.slice none 0 0, .int .i64 0, .bool false, .int .i64 0, .slice none 0 0] 68) := ⟨_, rfl⟩
  have bX : Blk X w3.heap.size 68 #[.slice none 0 0, .int .i64 0, .bool false, .int .i64 0, .slice none 0 0] := by rw [hX]; exact Blk.new' rfl
  have hX3 : Below w3.heap.size w3 X := by rw [hX]; exact (Below.refl _ _).alloc (Nat.le_refl _) _
  have cX := hb2'.below hX3 la3
  have sX := hO3.below hX3
  have hBX := hB3.trans (hX3.mono hy3)
  rw [← hX]
  obtain ⟨a3, ha3⟩ : ∃ a, a = w3.heap.size := ⟨_, rfl⟩
  rw [← ha3] at bX ⊢
  have lX1 := bX.lt
  have lX2 := cX.lt
  clear hX hX3 hb2' hO3 hB3 ha3 la3 hy3
  go_wp2_with fail
  refine ((HB _).out).mono ?_
  rintro e Y ⟨rfl, hbY⟩
  have bY := bX.below hbY lX1
  have cY := cX.below hbY lX2
  have sY := sX.below hbY
  have hBY := hBX.trans (hbY.mono hBX.size)
  have b0 := bY.cell 0
  have b1 := bY.cell 1
  have b2 := bY.cell 2
  have b3 := bY.cell 3
  have b4 := bY.cell 4
  have c0 := cY.cell 0
  have c1 := cY.cell 1
  have c2 := cY.cell 2
  have c3 := cY.cell 3
  have c4 := cY.cell 4
  simp only [List.getElem?_toArray, List.getElem?_cons_zero, List.getElem?_cons_succ] at b0 b1 b2 b3 b4 c0 c1 c2 c3 c4
  have HSm := hide (sY.same (B' := 0) (O' := none) (oc' := 0) (C' := none) (cc' := 0) ⟨Row.nil_ _ _ _, CRow.nil_ _ _ _⟩)
  have hYz := hBY.size
  clear bX cX sX hBX hbY bY cY sY
  go_wp2_with fail
  refine (HSm.out).mono ?_
  rintro e Z ⟨rfl, hbZ⟩
  go_wp2_with fail
  go_ret
  exact ⟨rfl, hBY.trans (hbZ.mono hYz)⟩
theorem RunRuns_any (regs : Int) (A : Option Addr) (l : List Nd) (cap : Nat) (Ai : Option Addr) (inp : List Int) (ci : Nat) (fuel : Int) (w : World) (hl : l.length ≤ maxLen) (hA : NodesAt w A l) (hI : ValsAt w Ai (ints inp)) (hic : inp.length ≤ ci ∧ ci ≤ maxLen) :
    Calls Try.prog 8 #[.agg #[.int .i64 regs, .slice A l.length cap], .slice Ai inp.length ci, .int .i64 fuel] w fun e w' => e = .returned (.bool true) ∧ Below w.heap.size w w' := by
  by_cases h0 : runE regs l inp fuel = 0
  · exact RunRuns_ok regs A l cap Ai inp ci fuel w hl hA hI hic h0
  · exact RunRuns_err regs A l cap Ai inp ci fuel w hl hA hI hic h0
end Go.Proofs.Ytmghkonmfbpjcaa
