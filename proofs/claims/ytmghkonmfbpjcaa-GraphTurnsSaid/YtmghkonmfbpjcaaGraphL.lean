/- GraphTurns: the law, walked. -/
import Derived.Test.YtmghkonmfbpjcaaGraphB
import Derived.Test.YtmghkonmfbpjcaaTrimR
import Derived.Test.YtmghkonmfbpjcaaSplitR
import Derived.Test.YtmghkonmfbpjcaaSameB
import Derived.Test.YtmghkonmfbpjcaaCheckP
import Derived.Deep.DeepCutAuto
namespace Go.Proofs.Ytmghkonmfbpjcaa
set_option linter.unusedVariables false
set_option linter.unusedSimpArgs false
open Go.RowKit
set_option maxHeartbeats 4000000
attribute [local irreducible] Row madeCells NRow

set_option maxRecDepth 100000 in
theorem graph_err (regs : Int) (A : Option Addr) (l : List Nd) (cap : Nat) (w : World) (hA : NodesAt w A l) (hml : l.length ≤ maxLen) (hc : chk regs l ≠ 0) :
    Calls Try.prog 5 #[.agg #[.int .i64 regs, .slice A l.length cap]] w fun e w' => e = .returned (.bool true) ∧ Below w.heap.size w w' := by
  have hRc := fun W (hW : Below w.heap.size w W) => Reach_any regs A l cap W hml (hA.below hW)
  have hT := fun W (hW : Below w.heap.size w W) => Trim_any regs A l cap W hml (hA.below hW)
  have hS := fun W (hW : Below w.heap.size w W) => Split_any regs A l cap W hml (hA.below hW)
  have hC := fun W (hW : Below w.heap.size w W) => CheckProg_any regs A l cap W (hA.below hW)
  have HRc := hide hRc
  have HT := hide hT
  have HS := hide hS
  have HC := hide hC
  clear hRc hT hS hC
  have Hc := hide hc
  have hne : (chk regs l == 0) = false := by simpa using hc
  clear hc
  go_enter Try.func5, Try.ntmps5
  go_wp2_with fail
  refine (HRc.out _ (by repeat (first | (with_reducible exact Below.refl _ _) | (with_reducible assumption) | (with_reducible refine Below.drew ?_) | (with_reducible refine below_drewN ?_ _) | (with_reducible refine Below.alloc ?_ (by (try simp only [World.size_alloc, World.size_setCell, World.size_drew, World.heap_drewN]); (first | done | omega | ((try simp only [World.size_alloc, World.size_setCell, World.size_drew, World.heap_drewN] at *); omega))) _) | (with_reducible refine Below.setCell ?_ (by (try simp only [World.size_alloc, World.size_setCell, World.size_drew, World.heap_drewN]); (first | done | omega | ((try simp only [World.size_alloc, World.size_setCell, World.size_drew, World.heap_drewN] at *); omega))) _) | (with_reducible refine Below.trans ?_ (Below.mono (by assumption) (by (try simp only [World.size_alloc, World.size_setCell, World.size_drew, World.heap_drewN]); (first | done | omega | ((try simp only [World.size_alloc, World.size_setCell, World.size_drew, World.heap_drewN] at *); omega)))))))).mono ?_
  rintro e w1 ⟨hb1, h1⟩
  obtain ⟨-, rfl⟩ := h1.resolve_right (fun h => Hc.out h.1)
  have hz1 := hb1.size
  simp only [World.size_alloc] at hz1
  have hP : Blk w1 w.heap.size 24 #[.int .i64 regs, .slice A l.length cap] := Blk.below (Blk.new' rfl) hb1 (by simp)
  have hB : Below w.heap.size w w1 := (by repeat (first | (with_reducible exact Below.refl _ _) | (with_reducible assumption) | (with_reducible refine Below.drew ?_) | (with_reducible refine below_drewN ?_ _) | (with_reducible refine Below.alloc ?_ (by (try simp only [World.size_alloc, World.size_setCell, World.size_drew, World.heap_drewN]); (first | done | omega | ((try simp only [World.size_alloc, World.size_setCell, World.size_drew, World.heap_drewN] at *); omega))) _) | (with_reducible refine Below.setCell ?_ (by (try simp only [World.size_alloc, World.size_setCell, World.size_drew, World.heap_drewN]); (first | done | omega | ((try simp only [World.size_alloc, World.size_setCell, World.size_drew, World.heap_drewN] at *); omega))) _) | (with_reducible refine Below.trans ?_ (Below.mono (by assumption) (by (try simp only [World.size_alloc, World.size_setCell, World.size_drew, World.heap_drewN]); (first | done | omega | ((try simp only [World.size_alloc, World.size_setCell, World.size_drew, World.heap_drewN] at *); omega)))))))
  have p0 := hP.cell 0
  have p1 := hP.cell 1
  simp only [List.getElem?_toArray, List.getElem?_cons_zero, List.getElem?_cons_succ] at p0 p1
  have lp := hP.lt
  clear hb1 h1
  go_wp2_with fail
  refine (HT.out _ hB).mono ?_
  rintro e w2 ⟨hb2, h2⟩
  obtain ⟨-, rfl⟩ := h2.resolve_right (fun h => Hc.out h.1)
  have hz2 := hb2.size
  have hP := hP.below hb2 lp
  have hB := hB.trans (hb2.mono (by omega))
  have p0 := hP.cell 0
  have p1 := hP.cell 1
  simp only [List.getElem?_toArray, List.getElem?_cons_zero, List.getElem?_cons_succ] at p0 p1
  have lp := hP.lt
  clear hb2 h2
  go_wp2_with fail
  refine (HS.out _ (hB.alloc (by omega) _)).mono ?_
  rintro e w3 ⟨hb3, h3⟩
  obtain ⟨-, rfl⟩ := h3.resolve_right (fun h => h.elim (fun h => Hc.out h.1) (fun h => Hc.out h.1))
  have hz3 := hb3.size
  simp only [World.size_alloc] at hz3
  have hP := (hP.alloc (.cells #[.int .i64 0, .slice none 0 0] 24)).below hb3 (by simp; omega)
  have hX : Blk w3 w2.heap.size 24 #[.int .i64 0, .slice none 0 0] := Blk.below (Blk.new' rfl) hb3 (by simp)
  have hB := (hB.alloc (by omega) (.cells #[.int .i64 0, .slice none 0 0] 24)).trans (hb3.mono (by simp; omega))
  have p0 := hP.cell 0
  have p1 := hP.cell 1
  simp only [List.getElem?_toArray, List.getElem?_cons_zero, List.getElem?_cons_succ] at p0 p1
  have lp := hP.lt
  clear hb3 h3
  go_wp2_with fail
  refine (HC.out _ (hB.alloc (by omega) _)).mono ?_
  rintro e w4 ⟨rfl, hb4⟩
  have hz4 := hb4.size
  simp only [World.size_alloc] at hz4
  have hY : Blk w4 w3.heap.size 24 #[.int .i64 0, .slice none 0 0] := Blk.below (Blk.new' rfl) hb4 (by simp)
  have lx := hX.lt
  have hX := (hX.alloc (.cells #[.int .i64 0, .slice none 0 0] 24)).below hb4 (by simp; omega)
  have hB := (hB.alloc (by omega) (.cells #[.int .i64 0, .slice none 0 0] 24)).trans (hb4.mono (by simp; omega))
  clear hb4 hP lp p0 p1
  go_wp2_with fail
  refine (graphBegun_any _).mono ?_
  rintro e w5 ⟨rfl, hb5⟩
  have hz5 := hb5.size
  simp only [World.size_alloc] at hz5
  have lx := hX.lt
  have ly := hY.lt
  have hX := ((hX.alloc (.cells #[.int .i64 0, .slice none 0 0] 24)).alloc (.cells #[.int .i64 0, .slice none 0 0] 24)).below hb5 (by simp; omega)
  have hY := ((hY.alloc (.cells #[.int .i64 0, .slice none 0 0] 24)).alloc (.cells #[.int .i64 0, .slice none 0 0] 24)).below hb5 (by simp; omega)
  have hU : Blk w5 w4.heap.size 24 #[.int .i64 0, .slice none 0 0] := Blk.below ((Blk.new' rfl).alloc _) hb5 (by simp <;> omega)
  have hV : Blk w5 (w4.heap.size + 1) 24 #[.int .i64 0, .slice none 0 0] := Blk.below (Blk.new' (by simp)) hb5 (by simp)
  have hB : Below w.heap.size w w5 := ((hB.alloc (by omega) _).alloc (by simp; omega) _).trans (hb5.mono (by simp; omega))
  clear hb5 lx ly
  have lx := hX.lt
  have ly := hY.lt
  have lu := hU.lt
  have lv := hV.lt
  go_wp2_with fail
  refine (SameBools_any none none 0 0 [] [] w5 ValsAt.nil ValsAt.nil (by simp) (by simp)).mono ?_
  rintro e w6 ⟨rfl, d, rfl⟩
  have x0 := hX.cell 0
  have x1 := hX.cell 1
  simp only [List.getElem?_toArray, List.getElem?_cons_zero, List.getElem?_cons_succ] at x0 x1
  have u0 := hU.cell 0
  have u1 := hU.cell 1
  simp only [List.getElem?_toArray, List.getElem?_cons_zero, List.getElem?_cons_succ] at u0 u1
  go_wp2_with fail
  refine (SameProgs_any 0 0 none none [] [] 0 0 _ NodesAt.nil NodesAt.nil (by simp) (by simp)).mono ?_
  rintro e w7 ⟨rfl, hb7⟩
  have hY := (hY.drewN d).below hb7 ly
  have hV := (hV.drewN d).below hb7 lv
  have hB : Below w.heap.size w w7 := (below_drewN hB d).trans (hb7.mono hB.size)
  clear lx ly lu lv x0 x1 u0 u1 hX hU
  have ly := hY.lt
  have lv := hV.lt
  have y0 := hY.cell 0
  have y1 := hY.cell 1
  simp only [List.getElem?_toArray, List.getElem?_cons_zero, List.getElem?_cons_succ] at y0 y1
  have v0 := hV.cell 0
  have v1 := hV.cell 1
  simp only [List.getElem?_toArray, List.getElem?_cons_zero, List.getElem?_cons_succ] at v0 v1
  go_wp2_with fail
  refine (SameProgs_any 0 0 none none [] [] 0 0 _ NodesAt.nil NodesAt.nil (by simp) (by simp)).mono ?_
  rintro e w8 ⟨rfl, hb8⟩
  go_wp2_with fail
  go_ret
  exact ⟨rfl, hB.trans (hb8.mono hB.size)⟩

theorem trimL_len' {l : List Nd} (h : l.length ≤ maxLen) : (trimL l).length ≤ maxLen := Nat.le_trans (trimL_len l) h

/-- what graph.Split has answered: an error, registers, nodes -/
structure Splitted where
  e : Int
  r : Int
  A : Option Addr
  c : Nat
  l : List Nd
def Splitted.of (q : Splitted) (regs : Int) (l : List Nd) : Prop := (256 < (splitL l).length ∧ q.e = 2 ∧ q.r = 0 ∧ q.l = []) ∨ ((splitL l).length ≤ 256 ∧ q.e = 0 ∧ q.r = regs ∧ q.l = splitL l)
theorem Splitted.same {q q' : Splitted} {regs : Int} {l : List Nd} (h : q.of regs l) (h' : q'.of regs l) : q'.e = q.e ∧ q'.r = q.r ∧ q'.l = q.l ∧ q.l.length ≤ 256 := by
  rcases h with ⟨h1, h2, h3, h4⟩ | ⟨h1, h2, h3, h4⟩ <;> rcases h' with ⟨g1, g2, g3, g4⟩ | ⟨g1, g2, g3, g4⟩
  · exact ⟨g2.trans h2.symm, g3.trans h3.symm, g4.trans h4.symm, by rw [h4]; simp⟩
  · omega
  · omega
  · exact ⟨g2.trans h2.symm, g3.trans h3.symm, g4.trans h4.symm, by rw [h4]; exact h1⟩

set_option maxRecDepth 100000 in
theorem graph_ok (regs : Int) (A : Option Addr) (l : List Nd) (cap : Nat) (w : World) (hA : NodesAt w A l) (hml : l.length ≤ maxLen) (hc : chk regs l = 0) :
    Calls Try.prog 5 #[.agg #[.int .i64 regs, .slice A l.length cap]] w fun e w' => e = .returned (.bool true) ∧ Below w.heap.size w w' := by
  have hR := right_of_chk hc
  have hhi := hR.hi
  have hRc := fun W (hW : Below w.heap.size w W) => Reach_any regs A l cap W hml (hA.below hW)
  have hT := fun W (hW : Below w.heap.size w W) => Trim_any regs A l cap W hml (hA.below hW)
  have hS := fun W (hW : Below w.heap.size w W) => Split_any regs A l cap W hml (hA.below hW)
  have hC := fun W (hW : Below w.heap.size w W) => CheckProg_any regs A l cap W (hA.below hW)
  rw [hc] at hC
  have hRO := fun W (hW : Below w.heap.size w W) => ReachOf_any regs A l cap W (hA.below hW) hR
  have hTO := fun W (hW : Below w.heap.size w W) => TrimOf_any regs A l cap W (hA.below hW) hR
  have hSO := fun W (hW : Below w.heap.size w W) => SplitOf_any regs A l cap W (hA.below hW) hR
  have HRc := hide hRc
  have HT := hide hT
  have HS := hide hS
  have HC := hide hC
  have HRO := hide hRO
  have HTO := hide hTO
  have HSO := hide hSO
  have Hc := hide hc
  clear hRc hT hS hC hRO hTO hSO hR hc
  go_enter Try.func5, Try.ntmps5
  go_wp2_with fail
  refine (HRc.out _ (by repeat (first | (with_reducible exact Below.refl _ _) | (with_reducible assumption) | (with_reducible refine Below.drew ?_) | (with_reducible refine below_drewN ?_ _) | (with_reducible refine Below.alloc ?_ (by (try simp only [World.size_alloc, World.size_setCell, World.size_drew, World.heap_drewN]); (first | done | omega | ((try simp only [World.size_alloc, World.size_setCell, World.size_drew, World.heap_drewN] at *); omega))) _) | (with_reducible refine Below.setCell ?_ (by (try simp only [World.size_alloc, World.size_setCell, World.size_drew, World.heap_drewN]); (first | done | omega | ((try simp only [World.size_alloc, World.size_setCell, World.size_drew, World.heap_drewN] at *); omega))) _) | (with_reducible refine Below.trans ?_ (Below.mono (by assumption) (by (try simp only [World.size_alloc, World.size_setCell, World.size_drew, World.heap_drewN]); (first | done | omega | ((try simp only [World.size_alloc, World.size_setCell, World.size_drew, World.heap_drewN] at *); omega)))))))).mono ?_
  rintro e w1 ⟨hb1, h1⟩
  obtain ⟨v1, rfl, hr1⟩ := (h1.resolve_left (fun h => h.1 Hc.out)).2
  have hz1 := hb1.size
  simp only [World.size_alloc] at hz1
  have hP : Blk w1 w.heap.size 24 #[.int .i64 regs, .slice A l.length cap] := Blk.below (Blk.new' rfl) hb1 (by simp)
  have hB : Below w.heap.size w w1 := (by repeat (first | (with_reducible exact Below.refl _ _) | (with_reducible assumption) | (with_reducible refine Below.drew ?_) | (with_reducible refine below_drewN ?_ _) | (with_reducible refine Below.alloc ?_ (by (try simp only [World.size_alloc, World.size_setCell, World.size_drew, World.heap_drewN]); (first | done | omega | ((try simp only [World.size_alloc, World.size_setCell, World.size_drew, World.heap_drewN] at *); omega))) _) | (with_reducible refine Below.setCell ?_ (by (try simp only [World.size_alloc, World.size_setCell, World.size_drew, World.heap_drewN]); (first | done | omega | ((try simp only [World.size_alloc, World.size_setCell, World.size_drew, World.heap_drewN] at *); omega))) _) | (with_reducible refine Below.trans ?_ (Below.mono (by assumption) (by (try simp only [World.size_alloc, World.size_setCell, World.size_drew, World.heap_drewN]); (first | done | omega | ((try simp only [World.size_alloc, World.size_setCell, World.size_drew, World.heap_drewN] at *); omega)))))))
  have p0 := hP.cell 0
  have p1 := hP.cell 1
  simp only [List.getElem?_toArray, List.getElem?_cons_zero, List.getElem?_cons_succ] at p0 p1
  have lp := hP.lt
  clear hb1 h1
  go_wp2_with fail
  refine (HT.out _ hB).mono ?_
  rintro e w2 ⟨hb2, h2⟩
  obtain ⟨v2, rfl, hn2⟩ := (h2.resolve_left (fun h => h.1 Hc.out)).2
  obtain ⟨A2, c2, rfl, -, -⟩ := hn2.shape
  have hz2 := hb2.size
  have hP := hP.below hb2 lp
  have hB := hB.trans (hb2.mono (by omega))
  have hr1 := hr1.below' hb2
  have p0 := hP.cell 0
  have p1 := hP.cell 1
  simp only [List.getElem?_toArray, List.getElem?_cons_zero, List.getElem?_cons_succ] at p0 p1
  have lp := hP.lt
  clear hb2 h2
  go_wp2_with fail
  refine (HS.out _ (hB.alloc (by omega) _)).mono ?_
  rintro e w3 ⟨hb3, h3⟩
  have h3 := (h3.resolve_left (fun h => h.1 Hc.out))
  have hs3 : ∃ (q : Splitted), e = .returned (.tuple #[.agg #[.int .i64 q.r, .slice q.A q.l.length q.c], .int .i64 q.e]) ∧ q.of regs l ∧ NodesAt w3 q.A q.l := by
    rcases h3 with ⟨_, hbig, rfl⟩ | ⟨_, hok, v3, rfl, hn3⟩
    · exact ⟨⟨2, 0, none, 0, []⟩, rfl, .inl ⟨hbig, rfl, rfl, rfl⟩, NodesAt.nil⟩
    · obtain ⟨A3, k3, rfl, -, -⟩ := hn3.shape
      exact ⟨⟨0, regs, A3, k3, splitL l⟩, rfl, .inr ⟨hok, rfl, rfl, rfl⟩, hn3.nodes⟩
  obtain ⟨⟨e3, r3, A3, c3, l3⟩, rfl, hq3, hn3⟩ := hs3
  dsimp only at hn3 ⊢
  have hz3 := hb3.size
  simp only [World.size_alloc] at hz3
  have hP := (hP.alloc (.cells #[.int .i64 regs, .slice A2 (trimL l).length c2] 24)).below hb3 (by simp; omega)
  have hX : Blk w3 w2.heap.size 24 #[.int .i64 regs, .slice A2 (trimL l).length c2] := Blk.below (Blk.new' rfl) hb3 (by simp)
  have hB := (hB.alloc (by omega) (.cells #[.int .i64 regs, .slice A2 (trimL l).length c2] 24)).trans (hb3.mono (by simp; omega))
  have hn2 := (hn2.alloc (.cells #[.int .i64 regs, .slice A2 (trimL l).length c2] 24)).below' hb3
  have hr1 := (hr1.alloc (.cells #[.int .i64 regs, .slice A2 (trimL l).length c2] 24)).below' hb3
  have p0 := hP.cell 0
  have p1 := hP.cell 1
  simp only [List.getElem?_toArray, List.getElem?_cons_zero, List.getElem?_cons_succ] at p0 p1
  have lp := hP.lt
  have Hq3 := hide hq3
  clear hb3 h3 hq3
  go_wp2_with fail
  refine (HC.out _ (hB.alloc (by omega) _)).mono ?_
  rintro e w4 ⟨rfl, hb4⟩
  have hz4 := hb4.size
  simp only [World.size_alloc] at hz4
  have hb34 : Below w3.heap.size w3 w4 := ((Below.refl _ _).alloc (Nat.le_refl _) _).trans (hb4.mono (by simp))
  have hY : Blk w4 w3.heap.size 24 #[.int .i64 r3, .slice A3 l3.length c3] := Blk.below (Blk.new' rfl) hb4 (by simp)
  have lx := hX.lt
  have hX := hX.below hb34 lx
  have hP := hP.below hb34 lp
  have hB := hB.trans (hb34.mono hB.size)
  have hn2 := hn2.below' hb34
  have hr1 := hr1.below' hb34
  have hn3 := hn3.below hb34
  clear hb4 lp p0 p1 lx
  have lx := hX.lt
  have ly := hY.lt
  have p0 := hP.cell 0
  have p1 := hP.cell 1
  simp only [List.getElem?_toArray, List.getElem?_cons_zero, List.getElem?_cons_succ] at p0 p1
  have lp := hP.lt
  go_upto_region 9 with fail
  obtain ⟨W5, hW5⟩ : ∃ W5 : World, W5 = (w4.alloc (.cells #[.int .i64 0, .slice none 0 0] 24)).alloc (.cells #[.int .i64 0, .slice none 0 0] 24) := ⟨_, rfl⟩
  rw [← hW5]
  have hb45 : Below w4.heap.size w4 W5 := by rw [hW5]; exact ((Below.refl _ _).alloc (Nat.le_refl _) _).alloc (by simp) _
  have hU : Blk W5 w4.heap.size 24 #[.int .i64 0, .slice none 0 0] := by rw [hW5]; exact (Blk.new' rfl).alloc _
  have hV : Blk W5 (w4.heap.size + 1) 24 #[.int .i64 0, .slice none 0 0] := by rw [hW5]; exact Blk.new' (by simp)
  have hz5 : w4.heap.size + 1 + 1 = W5.heap.size := by rw [hW5]; simp
  clear hW5
  have hP := hP.below hb45 lp
  clear lp p0 p1 hb34
  have lp := hP.lt
  have lu := hU.lt
  have lv := hV.lt
  have p0 := hP.cell 0
  have p1 := hP.cell 1
  simp only [List.getElem?_toArray, List.getElem?_cons_zero, List.getElem?_cons_succ] at p0 p1
  have HB5 := hide (hB.trans (hb45.mono hB.size))
  have HB := hide hB
  have HX := hide hX
  have HY := hide hY
  have HV := hide hV
  have HN2 := hide hn2
  have HR1 := hide hr1
  have HN3 := hide hn3
  have HB45 := hide hb45
  clear hB hX hY hV hn2 hr1 hn3 hb45
  go_cut [11] (fun s11 wx => ∃ v12 : Value, Row wx W5.heap.size 4 s11 (bools (reachL l)) ∧ NRow wx W5.heap.size 91 v12 (trimL l) ∧ Blk wx w4.heap.size 24 #[.int .i64 regs, v12] ∧ Blk wx (w4.heap.size + 1) 24 #[.int .i64 0, .slice none 0 0] ∧ Blk wx w.heap.size 24 #[.int .i64 regs, .slice A l.length cap] ∧ Below w4.heap.size w4 wx)
  case first =>
    go_region_with (first
      | (go_at_call 23; refine (HRO.out _ HB5.out.drew).mono ?_; rintro e w6 ⟨v6, rfl, hr6, hb6⟩; obtain ⟨A6, c6, rfl, -, -⟩ := hr6.shape; have hP6 := hP.drew.below hb6 lp; have hU6 := hU.drew.below hb6 lu; have hz6 := hb6.size; have l6 := hP6.lt; have p0 := hP6.cell 0; have p1 := hP6.cell 1; simp only [List.getElem?_toArray, List.getElem?_cons_zero, List.getElem?_cons_succ] at p0 p1)
      | (go_at_call 24; refine (HTO.out _ (HB5.out.drew.trans (hb6.mono HB5.out.size))).mono ?_; rintro e w7 ⟨v7, rfl, hn7, hb7⟩; obtain ⟨A7, c7, rfl, -, -⟩ := hn7.shape; have hU7 := hU6.below hb7 hU6.lt; have fu0 := hU7.frozen 0; have fu1 := hU7.frozen 1; have l7 := hU7.lt; have u0 := hU7.cell 0; have u1 := hU7.cell 1; simp only [List.getElem?_toArray, List.getElem?_cons_zero, List.getElem?_cons_succ] at u0 u1))
    all_goals (go_wp2_with fail)
    all_goals go_meet
    all_goals go_tidy
    all_goals (
      have hr7 := hr6.below' hb7
      have hb67 : Below W5.heap.size W5 w7 := Below.trans (Below.drew (Below.refl _ _) : Below W5.heap.size W5 W5.drew) (Below.trans hb6 (hb7.mono hz6))
      exact ⟨_, (hr7.far (hr7.ne_blk hU7 (by decide)) _).far (hr7.ne_blk hU7 (by decide)) _, ((hn7.far (hn7.ne_blk hU7 (by decide)) _).far (hn7.ne_blk hU7 (by decide)) _).mono hz6, (hU7.set_ 0 _).set_ 1 _, ((HV.out.below hb67 lv).far (by simp) _).far (by simp) _, ((hP.below hb67 lp).far (by simp; omega) _).far (by simp; omega) _, ((HB45.out.trans (hb67.mono HB45.out.size)).setCell (by simp) _).setCell (by simp) _⟩)
  case rest =>
    obtain ⟨v12, hr11, hn12, hU9, hV9, hP9, hL9⟩ := hcut
    obtain ⟨wx, rfl⟩ : ∃ wx : World, wx = wc := ⟨_, rfl⟩
    obtain ⟨A12, c12, rfl, -, -⟩ := hn12.shape
    obtain ⟨A11, c11, rfl, -, -⟩ := hr11.shape
    obtain ⟨A1, c1, rfl, -, -⟩ := HR1.out.shape
    rw [bools_length, reachL_len] at *
    have hz9 := hL9.size
    have hBx := HB.out.trans (hL9.mono HB.out.size)
    clear p0 p1 lp hP hU lu lv HV HB5 HB45
    have lp := hP9.lt
    have lu := hU9.lt
    have lv := hV9.lt
    have p0 := hP9.cell 0
    have p1 := hP9.cell 1
    simp only [List.getElem?_toArray, List.getElem?_cons_zero, List.getElem?_cons_succ] at p0 p1
    have HU9 := hide hU9
    have HV9 := hide hV9
    have HL9 := hide hL9
    have HR11 := hide hr11
    have HN12 := hide hn12
    have HBx := hide hBx
    clear hU9 hV9 hL9 hr11 hn12 hBx
    go_wp2_with fail
    refine (HSO.out _ HBx.out).mono ?_
    rintro e w8 ⟨hb8, h8⟩
    have hs8 : ∃ (q : Splitted), e = .returned (.tuple #[.agg #[.int .i64 q.r, .slice q.A q.l.length q.c], .int .i64 q.e]) ∧ q.of regs l ∧ NRow w8 wx.heap.size 91 (.slice q.A q.l.length q.c) q.l := by
      rcases h8 with ⟨hbig, rfl⟩ | ⟨hok, v8, rfl, hn8⟩
      · exact ⟨⟨2, 0, none, 0, []⟩, rfl, .inl ⟨hbig, rfl, rfl, rfl⟩, NRow.nil_ _ _ _⟩
      · obtain ⟨A8, k8, rfl, -, -⟩ := hn8.shape
        exact ⟨⟨0, regs, A8, k8, splitL l⟩, rfl, .inr ⟨hok, rfl, rfl, rfl⟩, hn8⟩
    obtain ⟨⟨e8, r8, A8, c8, l8⟩, rfl, hq8, hn8⟩ := hs8
    obtain ⟨he, hr, hl, hlen⟩ := Splitted.same Hq3.out hq8
    dsimp only at he hr hl hlen hn8 ⊢
    subst he hr hl
    have hV8 := HV9.out.below hb8 lv
    have fv0 := hV8.frozen 0
    have fv1 := hV8.frozen 1
    have lv8 := hV8.lt
    have v0 := hV8.cell 0
    have v1 := hV8.cell 1
    simp only [List.getElem?_toArray, List.getElem?_cons_zero, List.getElem?_cons_succ] at v0 v1
    have HV8 := hide hV8
    have HN8 := hide hn8
    have HB8 := hide hb8
    clear hV8 hn8 hb8 h8 hq8 p0 p1
    go_wp2_with fail
    obtain ⟨W9, hW9⟩ : ∃ W9 : World, W9 = (w8.setCell ⟨w4.heap.size + 1, 0, none⟩ (.int .i64 r8)).setCell ⟨w4.heap.size + 1, 1, none⟩ (.slice A8 l8.length c8) := ⟨_, rfl⟩
    rw [← hW9]
    have hV := HV8.out
    have hL : Below w4.heap.size w4 W9 := by rw [hW9]; exact ((HL9.out.trans (HB8.out.mono hz9)).setCell (by simp) _).setCell (by simp) _
    have hBw : Below w.heap.size w W9 := by rw [hW9]; exact ((HBx.out.trans (HB8.out.mono HBx.out.size)).setCell (by simp; omega) _).setCell (by simp; omega) _
    have hr11 : Row W9 W5.heap.size 4 (.slice A11 l.length c11) (bools (reachL l)) := by rw [hW9]; exact ((HR11.out.below' HB8.out).far (HR11.out.ne_blk HV9.out (by decide)) _).far (HR11.out.ne_blk HV9.out (by decide)) _
    have hn12 : NRow W9 W5.heap.size 91 (.slice A12 (trimL l).length c12) (trimL l) := by rw [hW9]; exact ((HN12.out.below' HB8.out).far (HN12.out.ne_blk HV9.out (by decide)) _).far (HN12.out.ne_blk HV9.out (by decide)) _
    have hn8 : NRow W9 wx.heap.size 91 (.slice A8 l8.length c8) l8 := by rw [hW9]; exact (HN8.out.far (HN8.out.ne_blk HV8.out (by decide)) _).far (HN8.out.ne_blk HV8.out (by decide)) _
    have hU : Blk W9 w4.heap.size 24 #[.int .i64 regs, .slice A12 (trimL l).length c12] := by rw [hW9]; exact ((HU9.out.below HB8.out lu).far (by simp) _).far (by simp) _
    have hV : Blk W9 (w4.heap.size + 1) 24 #[.int .i64 r8, .slice A8 l8.length c8] := by rw [hW9]; exact (HV8.out.set_ 0 _).set_ 1 _
    clear hW9 fv0 fv1 v0 v1 lv8 HV8 HN8 HB8 HV9 HU9 HL9 HR11 HN12 HBx lu lv lp hP9 hz9
    refine (graphBegun_any _).mono ?_
    rintro e w10 ⟨rfl, hb10⟩
    have hL := hL.trans (hb10.mono hL.size)
    have hBw := hBw.trans (hb10.mono hBw.size)
    have lu := hU.lt
    have lv := hV.lt
    have hU := hU.below hb10 lu
    have hV := hV.below hb10 lv
    have hr11 := hr11.below' hb10
    have hn12 := hn12.below' hb10
    have hn8 := hn8.below' hb10
    clear hb10 lu lv
    have hlb : (reachL l).length ≤ maxLen := by rw [reachL_len]; exact hml
    have hX := HX.out.below hL lx
    have hY := HY.out.below hL ly
    have hr1 := HR1.out.below' hL
    have hn2 := HN2.out.below' hL
    have hn3 := HN3.out.below hL
    have hSB := SameBools_any A1 A11 c1 c11 (reachL l) (reachL l) w10 hr1.vals hr11.vals hlb hlb
    rw [reachL_len, show (reachL l == reachL l) = true by simp] at hSB
    have HSB := hide hSB
    clear hSB hr1 hr11
    have lx := hX.lt
    have ly := hY.lt
    have lu := hU.lt
    have lv := hV.lt
    go_wp2_with fail
    refine (HSB.out).mono ?_
    rintro e w11 ⟨rfl, d, rfl⟩
    have x0 := hX.cell 0
    have x1 := hX.cell 1
    simp only [List.getElem?_toArray, List.getElem?_cons_zero, List.getElem?_cons_succ] at x0 x1
    have u0 := hU.cell 0
    have u1 := hU.cell 1
    simp only [List.getElem?_toArray, List.getElem?_cons_zero, List.getElem?_cons_succ] at u0 u1
    have hS1 := SameProgs_any regs regs A2 A12 (trimL l) (trimL l) c2 c12 (w10.drewN d) (hn2.drewN d).nodes (hn12.drewN d).nodes (trimL_len' hml) (trimL_len' hml)
    rw [show (regs == regs && trimL l == trimL l) = true by simp] at hS1
    have HS1 := hide hS1
    clear hS1
    go_wp2_with fail
    refine (HS1.out).mono ?_
    rintro e w12 ⟨rfl, hb12⟩
    have hb12' : Below w10.heap.size w10 w12 := (below_drewN (Below.refl _ _) d : Below w10.heap.size w10 (w10.drewN d)).trans hb12
    have hY := hY.below hb12' ly
    have hV := hV.below hb12' lv
    have hn3 := hn3.below hb12'
    have hn8 := hn8.below' hb12'
    have hBw := hBw.trans (hb12'.mono hBw.size)
    clear x0 x1 u0 u1 lx ly lu lv
    have ly := hY.lt
    have lv := hV.lt
    have y0 := hY.cell 0
    have y1 := hY.cell 1
    simp only [List.getElem?_toArray, List.getElem?_cons_zero, List.getElem?_cons_succ] at y0 y1
    have v0 := hV.cell 0
    have v1 := hV.cell 1
    simp only [List.getElem?_toArray, List.getElem?_cons_zero, List.getElem?_cons_succ] at v0 v1
    have hl8 : l8.length ≤ maxLen := by unfold maxLen; omega
    have hS2 := SameProgs_any r8 r8 A3 A8 l8 l8 c3 c8 w12 hn3 hn8.nodes hl8 hl8
    rw [show (r8 == r8 && l8 == l8) = true by simp] at hS2
    have HS2 := hide hS2
    clear hS2
    go_wp2_with fail
    refine (HS2.out).mono ?_
    rintro e w13 ⟨rfl, hb13⟩
    go_wp2_with fail
    go_ret
    exact ⟨rfl, hBw.trans (hb13.mono hBw.size)⟩

/-- the law, whatever its input -/
theorem GraphTurns_any (regs : Int) (A : Option Addr) (l : List Nd) (cap : Nat) (w : World) (hA : NodesAt w A l) (hml : l.length ≤ maxLen) :
    Calls Try.prog 5 #[.agg #[.int .i64 regs, .slice A l.length cap]] w fun e w' => e = .returned (.bool true) ∧ Below w.heap.size w w' := by
  by_cases hc : chk regs l = 0
  · exact graph_ok regs A l cap w hA hml hc
  · exact graph_err regs A l cap w hA hml hc
end Go.Proofs.Ytmghkonmfbpjcaa
