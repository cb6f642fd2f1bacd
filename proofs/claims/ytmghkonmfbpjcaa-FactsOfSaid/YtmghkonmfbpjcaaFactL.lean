/- FactsOf: the law, walked. -/
import Derived.Test.YtmghkonmfbpjcaaFactB
import Derived.Test.YtmghkonmfbpjcaaFactR9
import Derived.Test.YtmghkonmfbpjcaaFactS
namespace Go.Proofs.Ytmghkonmfbpjcaa
set_option linter.unusedVariables false
set_option linter.unusedSimpArgs false
open Go.RowKit
set_option maxHeartbeats 4000000
attribute [local irreducible] Row madeCells

set_option maxRecDepth 100000 in
theorem factsLaw_err (regs : Int) (A : Option Addr) (l : List Nd) (cap : Nat) (t : Tm) (w : World) (hA : NodesAt w A l) (hml : l.length ≤ maxLen) (hc : fxE regs l t ≠ 0) :
    Calls Try.prog 6 #[.agg #[.int .i64 regs, .slice A l.length cap], .agg #[.int .i64 t.op, .int .i64 t.a, .int .i64 t.b]] w fun e w' => e = .returned (.bool true) ∧ Below w.heap.size w w' := by
  have hF := fun W (hW : Below w.heap.size w W) => Facts_any regs A l cap t W hml (hA.below hW)
  have hE := fun W (hW : Below w.heap.size w W) => factsError_any regs A l cap t W (hA.below hW)
  have HF := hide hF
  have HE := hide hE
  clear hF hE
  have Hc := hide hc
  have hne : (fxE regs l t == 0) = false := by simpa using hc
  clear hc
  go_enter Try.func6, Try.ntmps6
  go_wp2_with fail
  refine (HF.out _ (by repeat (first | (with_reducible exact Below.refl _ _) | (with_reducible assumption) | (with_reducible refine Below.drew ?_) | (with_reducible refine below_drewN ?_ _) | (with_reducible refine Below.alloc ?_ (by (try simp only [World.size_alloc, World.size_setCell, World.size_drew, World.heap_drewN]); (first | done | omega | ((try simp only [World.size_alloc, World.size_setCell, World.size_drew, World.heap_drewN] at *); omega))) _) | (with_reducible refine Below.setCell ?_ (by (try simp only [World.size_alloc, World.size_setCell, World.size_drew, World.heap_drewN]); (first | done | omega | ((try simp only [World.size_alloc, World.size_setCell, World.size_drew, World.heap_drewN] at *); omega))) _) | (with_reducible refine Below.trans ?_ (Below.mono (by assumption) (by (try simp only [World.size_alloc, World.size_setCell, World.size_drew, World.heap_drewN]); (first | done | omega | ((try simp only [World.size_alloc, World.size_setCell, World.size_drew, World.heap_drewN] at *); omega)))))))).mono ?_
  rintro e w1 ⟨hb1, h1⟩
  obtain ⟨-, rfl⟩ := h1.resolve_right (fun h => Hc.out h.1)
  have hz1 := hb1.size
  simp only [World.size_alloc] at hz1
  have hP : Blk w1 w.heap.size 24 #[.int .i64 regs, .slice A l.length cap] := Blk.below ((Blk.new' rfl).alloc _) hb1 (by simp <;> omega)
  have hT : Blk w1 (w.heap.size + 1) 47 #[.int .i64 t.op, .int .i64 t.a, .int .i64 t.b] := Blk.below (Blk.new' (by simp)) hb1 (by simp)
  have hB : Below w.heap.size w w1 := (by repeat (first | (with_reducible exact Below.refl _ _) | (with_reducible assumption) | (with_reducible refine Below.drew ?_) | (with_reducible refine below_drewN ?_ _) | (with_reducible refine Below.alloc ?_ (by (try simp only [World.size_alloc, World.size_setCell, World.size_drew, World.heap_drewN]); (first | done | omega | ((try simp only [World.size_alloc, World.size_setCell, World.size_drew, World.heap_drewN] at *); omega))) _) | (with_reducible refine Below.setCell ?_ (by (try simp only [World.size_alloc, World.size_setCell, World.size_drew, World.heap_drewN]); (first | done | omega | ((try simp only [World.size_alloc, World.size_setCell, World.size_drew, World.heap_drewN] at *); omega))) _) | (with_reducible refine Below.trans ?_ (Below.mono (by assumption) (by (try simp only [World.size_alloc, World.size_setCell, World.size_drew, World.heap_drewN]); (first | done | omega | ((try simp only [World.size_alloc, World.size_setCell, World.size_drew, World.heap_drewN] at *); omega)))))))
  have p0 := hP.cell 0
  have p1 := hP.cell 1
  have t0 := hT.cell 0
  have t1 := hT.cell 1
  have t2 := hT.cell 2
  have lp := hP.lt
  have lt := hT.lt
  simp only [List.getElem?_toArray, List.getElem?_cons_zero, List.getElem?_cons_succ] at p0 p1 t0 t1 t2
  clear hb1 h1
  go_wp2_with fail
  refine (HE.out _ (hB.alloc (by omega) _)).mono ?_
  rintro e w2 ⟨rfl, hb2⟩
  have hz2 := hb2.size
  simp only [World.size_alloc] at hz2
  have hX : Blk w2 w1.heap.size 49 nil6 := Blk.below (Blk.new' rfl) hb2 (by simp)
  have hB2 : Below w.heap.size w w2 := (hB.alloc (by omega) (.cells nil6 49)).trans (hb2.mono (by simp; omega))
  have lx := hX.lt
  clear hb2 p0 p1 t0 t1 t2 lp lt hP hT
  go_wp2_with fail
  refine (factsBegun_any _).mono ?_
  rintro e w3 ⟨rfl, hb3⟩
  have hz3 := hb3.size
  simp only [World.size_alloc] at hz3
  have hY : Blk w3 w2.heap.size 49 nil6 := Blk.below (Blk.new' rfl) hb3 (by simp)
  have hX := (hX.alloc (.cells nil6 49)).below hb3 (by simp; omega)
  have hB3 : Below w.heap.size w w3 := (hB2.alloc (by omega) (.cells nil6 49)).trans (hb3.mono (by simp; omega))
  have x0 := hX.cell 0
  have x1 := hX.cell 1
  have x2 := hX.cell 2
  have x3 := hX.cell 3
  have x4 := hX.cell 4
  have x5 := hX.cell 5
  have y0 := hY.cell 0
  have y1 := hY.cell 1
  have y2 := hY.cell 2
  have y3 := hY.cell 3
  have y4 := hY.cell 4
  have y5 := hY.cell 5
  have lx := hX.lt
  have ly := hY.lt
  simp only [List.getElem?_toArray, List.getElem?_cons_zero, List.getElem?_cons_succ] at x0 x1 x2 x3 x4 x5 y0 y1 y2 y3 y4 y5
  clear hb3
  go_wp2_with fail
  refine (SameFacts_any [] [] [] [] [] [] none none none none none none none none none none none none 0 0 0 0 0 0 0 0 0 0 0 0 w3 ValsAt.nil ValsAt.nil ValsAt.nil ValsAt.nil ValsAt.nil ValsAt.nil ValsAt.nil ValsAt.nil ValsAt.nil ValsAt.nil ValsAt.nil ValsAt.nil (by simp) (by simp) (by simp) (by simp) (by simp) (by simp)).mono ?_
  rintro e w4 ⟨rfl, hb4⟩
  go_wp2_with fail
  go_ret
  exact ⟨rfl, hB3.trans (hb4.mono hB3.size)⟩

set_option maxRecDepth 100000 in
theorem factsLaw_ok (regs : Int) (A : Option Addr) (l : List Nd) (cap : Nat) (t : Tm) (w : World) (hA : NodesAt w A l) (hml : l.length ≤ maxLen) (hc : fxE regs l t = 0) :
    Calls Try.prog 6 #[.agg #[.int .i64 regs, .slice A l.length cap], .agg #[.int .i64 t.op, .int .i64 t.a, .int .i64 t.b]] w fun e w' => e = .returned (.bool true) ∧ Below w.heap.size w w' := by
  have hk : chk regs l = 0 := by
    unfold fxE at hc
    by_cases h : chk regs l = 0
    · exact h
    · rw [if_pos h] at hc; exact absurd hc h
  have hR := right_of_chk hk
  have hF := fun W (hW : Below w.heap.size w W) => Facts_any regs A l cap t W hml (hA.below hW)
  have hE := fun W (hW : Below w.heap.size w W) => factsError_any regs A l cap t W (hA.below hW)
  rw [hc] at hE
  have hO := fun W (hW : Below w.heap.size w W) => FactsOf_any regs A l cap t W (hA.below hW) hR
  have HF := hide hF
  have HE := hide hE
  have HO := hide hO
  have Hc := hide hc
  have hl : l.length ≤ 256 := hR.hi
  clear hF hE hO hc hk hR
  go_enter Try.func6, Try.ntmps6
  go_wp2_with fail
  refine (HF.out _ (by repeat (first | (with_reducible exact Below.refl _ _) | (with_reducible assumption) | (with_reducible refine Below.drew ?_) | (with_reducible refine below_drewN ?_ _) | (with_reducible refine Below.alloc ?_ (by (try simp only [World.size_alloc, World.size_setCell, World.size_drew, World.heap_drewN]); (first | done | omega | ((try simp only [World.size_alloc, World.size_setCell, World.size_drew, World.heap_drewN] at *); omega))) _) | (with_reducible refine Below.setCell ?_ (by (try simp only [World.size_alloc, World.size_setCell, World.size_drew, World.heap_drewN]); (first | done | omega | ((try simp only [World.size_alloc, World.size_setCell, World.size_drew, World.heap_drewN] at *); omega))) _) | (with_reducible refine Below.trans ?_ (Below.mono (by assumption) (by (try simp only [World.size_alloc, World.size_setCell, World.size_drew, World.heap_drewN]); (first | done | omega | ((try simp only [World.size_alloc, World.size_setCell, World.size_drew, World.heap_drewN] at *); omega)))))))).mono ?_
  rintro e w1 ⟨hb1, h1⟩
  obtain ⟨F, v0, v1, v2, v3, v4, v5, rfl, hF, hr0, hr1, hr2, hr3, hr4, hr5⟩ := (h1.resolve_left (fun h => h.1 Hc.out)).2
  obtain ⟨D0, k0, rfl, _, _⟩ := hr0.shape
  obtain ⟨D1, k1, rfl, _, _⟩ := hr1.shape
  obtain ⟨D2, k2, rfl, _, _⟩ := hr2.shape
  obtain ⟨D3, k3, rfl, _, _⟩ := hr3.shape
  obtain ⟨D4, k4, rfl, _, _⟩ := hr4.shape
  obtain ⟨D5, k5, rfl, _, _⟩ := hr5.shape
  simp only [bools_length] at hr0 hr1 hr2 hr3 hr4 hr5 ⊢
  have hz1 := hb1.size
  simp only [World.size_alloc] at hz1
  have hP : Blk w1 w.heap.size 24 #[.int .i64 regs, .slice A l.length cap] := Blk.below ((Blk.new' rfl).alloc _) hb1 (by simp <;> omega)
  have hT : Blk w1 (w.heap.size + 1) 47 #[.int .i64 t.op, .int .i64 t.a, .int .i64 t.b] := Blk.below (Blk.new' (by simp)) hb1 (by simp)
  have hB : Below w.heap.size w w1 := (by repeat (first | (with_reducible exact Below.refl _ _) | (with_reducible assumption) | (with_reducible refine Below.drew ?_) | (with_reducible refine below_drewN ?_ _) | (with_reducible refine Below.alloc ?_ (by (try simp only [World.size_alloc, World.size_setCell, World.size_drew, World.heap_drewN]); (first | done | omega | ((try simp only [World.size_alloc, World.size_setCell, World.size_drew, World.heap_drewN] at *); omega))) _) | (with_reducible refine Below.setCell ?_ (by (try simp only [World.size_alloc, World.size_setCell, World.size_drew, World.heap_drewN]); (first | done | omega | ((try simp only [World.size_alloc, World.size_setCell, World.size_drew, World.heap_drewN] at *); omega))) _) | (with_reducible refine Below.trans ?_ (Below.mono (by assumption) (by (try simp only [World.size_alloc, World.size_setCell, World.size_drew, World.heap_drewN]); (first | done | omega | ((try simp only [World.size_alloc, World.size_setCell, World.size_drew, World.heap_drewN] at *); omega)))))))
  have p0 := hP.cell 0
  have p1 := hP.cell 1
  have t0 := hT.cell 0
  have t1 := hT.cell 1
  have t2 := hT.cell 2
  have lp := hP.lt
  have lt := hT.lt
  simp only [List.getElem?_toArray, List.getElem?_cons_zero, List.getElem?_cons_succ] at p0 p1 t0 t1 t2
  have H0 := hide hr0.vals
  have H1 := hide hr1.vals
  have H2 := hide hr2.vals
  have H3 := hide hr3.vals
  have H4 := hide hr4.vals
  have H5 := hide hr5.vals
  have HFx := hide hF
  clear hb1 h1 hr0 hr1 hr2 hr3 hr4 hr5 hF
  go_wp2_with fail
  refine (HE.out _ (hB.alloc (by omega) _)).mono ?_
  rintro e w2 ⟨rfl, hb2⟩
  have hz2 := hb2.size
  simp only [World.size_alloc] at hz2
  have hb12 : Below w1.heap.size w1 w2 := ((Below.refl _ _).alloc (Nat.le_refl _) (.cells #[.slice D0 F.down.length k0, .slice D1 F.up.length k1, .slice D2 F.early.length k2, .slice D3 F.delay.length k3, .slice D4 F.late.length k4, .slice D5 F.alone.length k5] 49)).trans (hb2.mono (by simp))
  have hX : Blk w2 w1.heap.size 49 #[.slice D0 F.down.length k0, .slice D1 F.up.length k1, .slice D2 F.early.length k2, .slice D3 F.delay.length k3, .slice D4 F.late.length k4, .slice D5 F.alone.length k5] := Blk.below (Blk.new' rfl) hb2 (by simp)
  have hB2 := hB.trans (hb12.mono hB.size)
  have hP := hP.below hb12 lp
  have hT := hT.below hb12 lt
  have p0 := hP.cell 0
  have p1 := hP.cell 1
  have t0 := hT.cell 0
  have t1 := hT.cell 1
  have t2 := hT.cell 2
  have lp := hP.lt
  have lt := hT.lt
  have lx := hX.lt
  simp only [List.getElem?_toArray, List.getElem?_cons_zero, List.getElem?_cons_succ] at p0 p1 t0 t1 t2
  clear hb2
  go_wp2_with fail
  refine (HO.out _ (hB2.alloc (by omega) _)).mono ?_
  rintro e w3 ⟨hb3, G, v0, v1, v2, v3, v4, v5, rfl, hG, hr0, hr1, hr2, hr3, hr4, hr5⟩
  have hFG : G = F := hG.unique HFx.out
  subst hFG
  obtain ⟨E0, j0, rfl, _, _⟩ := hr0.shape
  obtain ⟨E1, j1, rfl, _, _⟩ := hr1.shape
  obtain ⟨E2, j2, rfl, _, _⟩ := hr2.shape
  obtain ⟨E3, j3, rfl, _, _⟩ := hr3.shape
  obtain ⟨E4, j4, rfl, _, _⟩ := hr4.shape
  obtain ⟨E5, j5, rfl, _, _⟩ := hr5.shape
  simp only [bools_length] at hr0 hr1 hr2 hr3 hr4 hr5 ⊢
  have hz3 := hb3.size
  simp only [World.size_alloc] at hz3
  have hb23 : Below w2.heap.size w2 w3 := ((Below.refl _ _).alloc (Nat.le_refl _) (.cells nil6 49)).trans (hb3.mono (by simp))
  have hY : Blk w3 w2.heap.size 49 nil6 := Blk.below (Blk.new' rfl) hb3 (by simp)
  have hX3 := hX.below hb23 lx
  have hB3 := hB2.trans (hb23.mono hB2.size)
  have y0 := hY.cell 0
  have y1 := hY.cell 1
  have y2 := hY.cell 2
  have y3 := hY.cell 3
  have y4 := hY.cell 4
  have y5 := hY.cell 5
  have f0 := hY.frozen 0
  have f1 := hY.frozen 1
  have f2 := hY.frozen 2
  have f3 := hY.frozen 3
  have f4 := hY.frozen 4
  have f5 := hY.frozen 5
  have ly := hY.lt
  simp only [List.getElem?_toArray, List.getElem?_cons_zero, List.getElem?_cons_succ] at y0 y1 y2 y3 y4 y5
  have R0 := hide hr0
  have R1 := hide hr1
  have R2 := hide hr2
  have R3 := hide hr3
  have R4 := hide hr4
  have R5 := hide hr5
  have HY := hide hY
  have HX := hide hX3
  clear hb3 p0 p1 t0 t1 t2 lp lt hP hT hX lx hr0 hr1 hr2 hr3 hr4 hr5 hY hX3
  go_wp2_with fail
  obtain ⟨W, hW⟩ : ∃ W : World, W = set6 w3 w2.heap.size (.slice E0 G.down.length j0) (.slice E1 G.up.length j1) (.slice E2 G.early.length j2) (.slice E3 G.delay.length j3) (.slice E4 G.late.length j4) (.slice E5 G.alone.length j5) := ⟨_, rfl⟩
  have hW' := hW
  unfold set6 at hW'
  rw [← hW']
  clear hW' y0 y1 y2 y3 y4 y5 f0 f1 f2 f3 f4 f5
  have hYn : Blk W w2.heap.size 49 #[.slice E0 G.down.length j0, .slice E1 G.up.length j1, .slice E2 G.early.length j2, .slice E3 G.delay.length j3, .slice E4 G.late.length j4, .slice E5 G.alone.length j5] := by
    rw [hW]
    exact (((((HY.out.set_ 0 (.slice E0 G.down.length j0)).set_ 1 (.slice E1 G.up.length j1)).set_ 2 (.slice E2 G.early.length j2)).set_ 3 (.slice E3 G.delay.length j3)).set_ 4 (.slice E4 G.late.length j4)).set_ 5 (.slice E5 G.alone.length j5)
  have hLw : Below w2.heap.size w2 W := by rw [hW]; exact below6 hb23 (Nat.le_refl _) _ _ _ _ _ _
  have hq0 := row6 R0.out (R0.out.ne_blk HY.out (by decide)) (.slice E0 G.down.length j0) (.slice E1 G.up.length j1) (.slice E2 G.early.length j2) (.slice E3 G.delay.length j3) (.slice E4 G.late.length j4) (.slice E5 G.alone.length j5)
  have hq1 := row6 R1.out (R1.out.ne_blk HY.out (by decide)) (.slice E0 G.down.length j0) (.slice E1 G.up.length j1) (.slice E2 G.early.length j2) (.slice E3 G.delay.length j3) (.slice E4 G.late.length j4) (.slice E5 G.alone.length j5)
  have hq2 := row6 R2.out (R2.out.ne_blk HY.out (by decide)) (.slice E0 G.down.length j0) (.slice E1 G.up.length j1) (.slice E2 G.early.length j2) (.slice E3 G.delay.length j3) (.slice E4 G.late.length j4) (.slice E5 G.alone.length j5)
  have hq3 := row6 R3.out (R3.out.ne_blk HY.out (by decide)) (.slice E0 G.down.length j0) (.slice E1 G.up.length j1) (.slice E2 G.early.length j2) (.slice E3 G.delay.length j3) (.slice E4 G.late.length j4) (.slice E5 G.alone.length j5)
  have hq4 := row6 R4.out (R4.out.ne_blk HY.out (by decide)) (.slice E0 G.down.length j0) (.slice E1 G.up.length j1) (.slice E2 G.early.length j2) (.slice E3 G.delay.length j3) (.slice E4 G.late.length j4) (.slice E5 G.alone.length j5)
  have hq5 := row6 R5.out (R5.out.ne_blk HY.out (by decide)) (.slice E0 G.down.length j0) (.slice E1 G.up.length j1) (.slice E2 G.early.length j2) (.slice E3 G.delay.length j3) (.slice E4 G.late.length j4) (.slice E5 G.alone.length j5)
  rw [← hW] at hq0 hq1 hq2 hq3 hq4 hq5
  have hXw := HX.out.far (p := ⟨w2.heap.size, 0, none⟩) (by have := HX.out.lt; simp; omega) (.int .i64 0)
  clear hXw
  have hX2 : Blk W w1.heap.size 49 #[.slice D0 G.down.length k0, .slice D1 G.up.length k1, .slice D2 G.early.length k2, .slice D3 G.delay.length k3, .slice D4 G.late.length k4, .slice D5 G.alone.length k5] := by
    rw [hW]
    have hn : w1.heap.size ≠ w2.heap.size := by omega
    exact (((((HX.out.far (p := ⟨w2.heap.size, 0, none⟩) hn _).far (p := ⟨w2.heap.size, 1, none⟩) hn _).far (p := ⟨w2.heap.size, 2, none⟩) hn _).far (p := ⟨w2.heap.size, 3, none⟩) hn _).far (p := ⟨w2.heap.size, 4, none⟩) hn _).far (p := ⟨w2.heap.size, 5, none⟩) hn _
  have hL1 : Below w1.heap.size w1 W := hb12.trans (hLw.mono hb12.size)
  have hBw : Below w.heap.size w W := hB.trans (hL1.mono hB.size)
  clear hW R0 R1 R2 R3 R4 R5 HY HX hb12 hb23 hLw
  refine (factsBegun_any _).mono ?_
  rintro e w5 ⟨rfl, hb5⟩
  have hX5 := hX2.below hb5 hX2.lt
  have hY5 := hYn.below hb5 hYn.lt
  have hB5 := hBw.trans (hb5.mono hBw.size)
  have hL5 := hL1.trans (hb5.mono hL1.size)
  have x0 := hX5.cell 0
  have x1 := hX5.cell 1
  have x2 := hX5.cell 2
  have x3 := hX5.cell 3
  have x4 := hX5.cell 4
  have x5 := hX5.cell 5
  have y0 := hY5.cell 0
  have y1 := hY5.cell 1
  have y2 := hY5.cell 2
  have y3 := hY5.cell 3
  have y4 := hY5.cell 4
  have y5 := hY5.cell 5
  have lx := hX5.lt
  have ly := hY5.lt
  simp only [List.getElem?_toArray, List.getElem?_cons_zero, List.getElem?_cons_succ] at x0 x1 x2 x3 x4 x5 y0 y1 y2 y3 y4 y5
  obtain ⟨n0, n1, n2, n3, n4, n5⟩ := hG.len
  have hSF := SameFacts_any G.down G.up G.early G.delay G.late G.alone D0 D1 D2 D3 D4 D5 E0 E1 E2 E3 E4 E5 k0 k1 k2 k3 k4 k5 j0 j1 j2 j3 j4 j5 w5 (H0.out.below hL5) (H1.out.below hL5) (H2.out.below hL5) (H3.out.below hL5) (H4.out.below hL5) (H5.out.below hL5)
    (hq0.below' hb5).vals (hq1.below' hb5).vals (hq2.below' hb5).vals (hq3.below' hb5).vals (hq4.below' hb5).vals (hq5.below' hb5).vals (by unfold maxLen; omega) (by unfold maxLen; omega) (by unfold maxLen; omega) (by unfold maxLen; omega) (by unfold maxLen; omega) (by unfold maxLen; omega)
  have HSF := hide hSF
  clear hSF hq0 hq1 hq2 hq3 hq4 hq5 hb5 n0 n1 n2 n3 n4 n5
  go_wp2_with fail
  refine (HSF.out).mono ?_
  rintro e w6 ⟨rfl, hb6⟩
  go_wp2_with fail
  go_ret
  exact ⟨rfl, hB5.trans (hb6.mono hB5.size)⟩

/-- the law, whatever its input -/
theorem FactsLaw_any (regs : Int) (A : Option Addr) (l : List Nd) (cap : Nat) (t : Tm) (w : World) (hA : NodesAt w A l) (hml : l.length ≤ maxLen) :
    Calls Try.prog 6 #[.agg #[.int .i64 regs, .slice A l.length cap], .agg #[.int .i64 t.op, .int .i64 t.a, .int .i64 t.b]] w fun e w' => e = .returned (.bool true) ∧ Below w.heap.size w w' := by
  by_cases hc : fxE regs l t = 0
  · exact factsLaw_ok regs A l cap t w hA hml hc
  · exact factsLaw_err regs A l cap t w hA hml hc
end Go.Proofs.Ytmghkonmfbpjcaa
