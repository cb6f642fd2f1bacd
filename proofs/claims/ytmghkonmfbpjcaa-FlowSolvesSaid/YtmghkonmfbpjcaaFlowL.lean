/- FlowSolves: the law, walked. -/
import Derived.Test.YtmghkonmfbpjcaaFlowB
import Derived.Test.YtmghkonmfbpjcaaCheckP
namespace Go.Proofs.Ytmghkonmfbpjcaa
set_option linter.unusedVariables false
set_option linter.unusedSimpArgs false
open Go.RowKit
set_option maxHeartbeats 4000000

section
variable (regs : Int) (A : Option Addr) (l : List Nd) (cap : Nat) (bk em : Bool) (G P Q T X : Option Addr) (g p q t xn gc pc qc tc xc : Nat) (w : World)
set_option maxRecDepth 100000 in
theorem law_err (hA : NodesAt w A l) (hml : l.length ≤ maxLen) (hxm : xn ≤ maxLen) (hfe : fchk regs l g p q t ≠ 0) :
    Calls Try.prog 3 #[.agg #[.int .i64 regs, .slice A l.length cap], .agg #[.bool bk, .bool em, .slice G g gc, .slice P p pc, .slice Q q qc, .slice T t tc], .slice X xn xc] w
      fun e w' => e = .returned (.bool true) ∧ Below w.heap.size w w' := by
  have hS := fun W (hW : Below w.heap.size w W) => Solve_err regs A l cap bk em G P Q T g p q t gc pc qc tc W (hA.below hW) hml hfe
  have hH := fun W (hW : Below w.heap.size w W) => Holds_err regs A l cap bk em G P Q T X g p q t xn gc pc qc tc xc W (hA.below hW) hml hfe
  have hE := fun W (hW : Below w.heap.size w W) => FlowError_any CheckProg_any regs A l cap bk em G P Q T g p q t gc pc qc tc W hml (hA.below hW)
  have hC := fun W (hW : Below w.heap.size w W) => FCheck_any regs A l cap bk em G P Q T g p q t gc pc qc tc W hml (hA.below hW)
  have HS := hide hS
  have HH := hide hH
  have HE := hide hE
  have HC := hide hC
  clear hS hH hE hC
  generalize fchk regs l g p q t = fe at *
  have hne : (fe == 0) = false := by simpa using hfe
  have hself : (fe == fe) = true := by simp
  clear hfe
  go_enter Try.func3, Try.ntmps3
  go_wp2_with fail
  refine (HS.out _ (by repeat (first | (with_reducible exact Below.refl _ _) | (with_reducible assumption) | (with_reducible refine Below.drew ?_) | (with_reducible refine below_drewN ?_ _) | (with_reducible refine Below.alloc ?_ (by (try simp only [World.size_alloc, World.size_setCell, World.size_drew, World.heap_drewN]); (first | done | omega | ((try simp only [World.size_alloc, World.size_setCell, World.size_drew, World.heap_drewN] at *); omega))) _) | (with_reducible refine Below.setCell ?_ (by (try simp only [World.size_alloc, World.size_setCell, World.size_drew, World.heap_drewN]); (first | done | omega | ((try simp only [World.size_alloc, World.size_setCell, World.size_drew, World.heap_drewN] at *); omega))) _) | (with_reducible refine Below.trans ?_ (Below.mono (by assumption) (by (try simp only [World.size_alloc, World.size_setCell, World.size_drew, World.heap_drewN]); (first | done | omega | ((try simp only [World.size_alloc, World.size_setCell, World.size_drew, World.heap_drewN] at *); omega)))))))).mono ?_
  rintro e w1 ⟨rfl, hb1⟩
  have hz1 := hb1.size
  simp only [World.size_alloc] at hz1
  have h1P : Blk w1 w.heap.size 24 #[.int .i64 regs, .slice A l.length cap] := Blk.below (Blk.alloc (Blk.new' rfl) _) hb1 (by (try simp only [World.size_alloc, World.size_setCell, World.size_drew, World.heap_drewN]); (first | done | omega | ((try simp only [World.size_alloc, World.size_setCell, World.size_drew, World.heap_drewN] at *); omega)))
  have h1F : Blk w1 (w.heap.size + 1) 27 #[.bool bk, .bool em, .slice G g gc, .slice P p pc, .slice Q q qc, .slice T t tc] := Blk.below (Blk.new' (by simp)) hb1 (by simp)
  have hB1 : Below w.heap.size w w1 := (by repeat (first | (with_reducible exact Below.refl _ _) | (with_reducible assumption) | (with_reducible refine Below.drew ?_) | (with_reducible refine below_drewN ?_ _) | (with_reducible refine Below.alloc ?_ (by (try simp only [World.size_alloc, World.size_setCell, World.size_drew, World.heap_drewN]); (first | done | omega | ((try simp only [World.size_alloc, World.size_setCell, World.size_drew, World.heap_drewN] at *); omega))) _) | (with_reducible refine Below.setCell ?_ (by (try simp only [World.size_alloc, World.size_setCell, World.size_drew, World.heap_drewN]); (first | done | omega | ((try simp only [World.size_alloc, World.size_setCell, World.size_drew, World.heap_drewN] at *); omega))) _) | (with_reducible refine Below.trans ?_ (Below.mono (by assumption) (by (try simp only [World.size_alloc, World.size_setCell, World.size_drew, World.heap_drewN]); (first | done | omega | ((try simp only [World.size_alloc, World.size_setCell, World.size_drew, World.heap_drewN] at *); omega)))))))
  clear hb1
  have p0 := h1P.cell 0
  have p1 := h1P.cell 1
  have f0 := h1F.cell 0
  have f1 := h1F.cell 1
  have f2 := h1F.cell 2
  have f3 := h1F.cell 3
  have f4 := h1F.cell 4
  have f5 := h1F.cell 5
  simp only [List.getElem?_toArray, List.getElem?_cons_zero, List.getElem?_cons_succ] at p0 p1 f0 f1 f2 f3 f4 f5
  go_wp2_with fail
  refine (HH.out _ hB1).mono ?_
  rintro e w2 ⟨rfl, hb2⟩
  have hB2 : Below w.heap.size w w2 := hB1.trans (hb2.mono (by omega))
  have h2P := h1P.below hb2 h1P.lt
  have h2F := h1F.below hb2 h1F.lt
  clear p0 p1 f0 f1 f2 f3 f4 f5
  have p0 := h2P.cell 0
  have p1 := h2P.cell 1
  have f0 := h2F.cell 0
  have f1 := h2F.cell 1
  have f2 := h2F.cell 2
  have f3 := h2F.cell 3
  have f4 := h2F.cell 4
  have f5 := h2F.cell 5
  simp only [List.getElem?_toArray, List.getElem?_cons_zero, List.getElem?_cons_succ] at p0 p1 f0 f1 f2 f3 f4 f5
  have hz2 := hB2.size
  go_wp2_with fail
  refine (HE.out _ hB2).mono ?_
  rintro e w3 ⟨rfl, hb3⟩
  have hB3 : Below w.heap.size w w3 := hB2.trans (hb3.mono (by omega))
  have h3P := h2P.below hb3 h2P.lt
  have h3F := h2F.below hb3 h2F.lt
  clear p0 p1 f0 f1 f2 f3 f4 f5
  have p0 := h3P.cell 0
  have p1 := h3P.cell 1
  have f0 := h3F.cell 0
  have f1 := h3F.cell 1
  have f2 := h3F.cell 2
  have f3 := h3F.cell 3
  have f4 := h3F.cell 4
  have f5 := h3F.cell 5
  simp only [List.getElem?_toArray, List.getElem?_cons_zero, List.getElem?_cons_succ] at p0 p1 f0 f1 f2 f3 f4 f5
  have hz3 := hB3.size
  go_wp2_with fail
  refine (flowBegun_any w3).mono ?_
  rintro e w4 ⟨rfl, hb4⟩
  have hB4 : Below w.heap.size w w4 := hB3.trans (hb4.mono (by omega))
  have h4P := h3P.below hb4 h3P.lt
  have h4F := h3F.below hb4 h3F.lt
  clear p0 p1 f0 f1 f2 f3 f4 f5
  have p0 := h4P.cell 0
  have p1 := h4P.cell 1
  have f0 := h4F.cell 0
  have f1 := h4F.cell 1
  have f2 := h4F.cell 2
  have f3 := h4F.cell 3
  have f4 := h4F.cell 4
  have f5 := h4F.cell 5
  simp only [List.getElem?_toArray, List.getElem?_cons_zero, List.getElem?_cons_succ] at p0 p1 f0 f1 f2 f3 f4 f5
  have hz4 := hB4.size
  go_wp2_with fail
  refine (HC.out _ hB4).mono ?_
  rintro e w5 ⟨rfl, hb5⟩
  have hB5 : Below w.heap.size w w5 := hB4.trans (hb5.mono (by omega))
  have hz5 := hB5.size
  go_wp2_with fail
  refine (SameBools_any none none 0 0 [] [] w5 ValsAt.nil ValsAt.nil (by simp) (by simp)).mono ?_
  rintro e w6 ⟨rfl, d, rfl⟩
  go_wp2_with fail
  go_ret
  exact ⟨rfl, below_drewN hB5 _⟩

variable (gen pass plus lt x : List Bool)
set_option maxRecDepth 100000 in
theorem law_len (hA : NodesAt w A l) (hml : l.length ≤ maxLen) (hxm : xn ≤ maxLen) (hfe : fchk regs l g p q t = 0)
    (hG : ValsAt w G (bools gen)) (hP : ValsAt w P (bools pass)) (hQ : ValsAt w Q (bools plus)) (hT : ValsAt w T (bools lt)) (hX : ValsAt w X (bools x))
    (hg : gen.length = g) (hp : pass.length = p) (hq : plus.length = q) (ht : lt.length = t) (hx : x.length = xn) (hxn : xn ≠ l.length) :
    Calls Try.prog 3 #[.agg #[.int .i64 regs, .slice A l.length cap], .agg #[.bool bk, .bool em, .slice G g gc, .slice P p pc, .slice Q q qc, .slice T t tc], .slice X xn xc] w
      fun e w' => e = .returned (.bool true) ∧ Below w.heap.size w w' := by
  have hS := fun W (hW : Below w.heap.size w W) => Solve_ok regs A l cap bk em G P Q T g p q t gc pc qc tc W (hA.below hW) hml gen pass plus lt (hG.below hW) (hP.below hW) (hQ.below hW) (hT.below hW) hg hp hq ht hfe
  have hH := fun W (hW : Below w.heap.size w W) => Holds_len regs A l cap bk em G P Q T X g p q t xn gc pc qc tc xc W (hA.below hW) hml hfe hxn hxm
  have hE := fun W (hW : Below w.heap.size w W) => FlowError_any CheckProg_any regs A l cap bk em G P Q T g p q t gc pc qc tc W hml (hA.below hW)
  have hC := fun W (hW : Below w.heap.size w W) => FCheck_any regs A l cap bk em G P Q T g p q t gc pc qc tc W hml (hA.below hW)
  obtain ⟨hR, e1, e2, e3, e4⟩ := fchk_zero hfe
  have hlo := hR.lo
  have hhi := hR.hi
  have hV := fun W (hW : Below w.heap.size w W) => SolveOf_any regs A l cap bk em G P Q T g p q t gc pc qc tc gen pass plus lt W (hA.below hW) ⟨hlo, hhi⟩ (hG.below hW) (hP.below hW) (hQ.below hW) (hT.below hW) hg hp hq ht e1 e2 e3 e4

  rw [hfe] at hE hC
  have HS := hide hS
  have HH := hide hH
  have HE := hide hE
  have HC := hide hC
  have HV := hide hV
  clear hS hH hE hC hV hfe e1 e2 e3 e4 hR hG hP hQ hT hX hg hp hq ht hx
  unfold maxLen at hxm
  have hne : ((xn : Int) != (l.length : Int)) = true := by simp; omega
  go_enter Try.func3, Try.ntmps3
  go_wp2_with fail
  refine (HS.out _ (by repeat (first | (with_reducible exact Below.refl _ _) | (with_reducible assumption) | (with_reducible refine Below.drew ?_) | (with_reducible refine below_drewN ?_ _) | (with_reducible refine Below.alloc ?_ (by (try simp only [World.size_alloc, World.size_setCell, World.size_drew, World.heap_drewN]); (first | done | omega | ((try simp only [World.size_alloc, World.size_setCell, World.size_drew, World.heap_drewN] at *); omega))) _) | (with_reducible refine Below.setCell ?_ (by (try simp only [World.size_alloc, World.size_setCell, World.size_drew, World.heap_drewN]); (first | done | omega | ((try simp only [World.size_alloc, World.size_setCell, World.size_drew, World.heap_drewN] at *); omega))) _) | (with_reducible refine Below.trans ?_ (Below.mono (by assumption) (by (try simp only [World.size_alloc, World.size_setCell, World.size_drew, World.heap_drewN]); (first | done | omega | ((try simp only [World.size_alloc, World.size_setCell, World.size_drew, World.heap_drewN] at *); omega)))))))).mono ?_
  rintro e w1 ⟨y, v1, hgy, rfl, hry, hb1⟩
  obtain ⟨Y, yc, rfl, _, _⟩ := hry.shape
  have hz1 := hb1.size
  simp only [World.size_alloc] at hz1
  have h1P : Blk w1 w.heap.size 24 #[.int .i64 regs, .slice A l.length cap] := Blk.below (Blk.alloc (Blk.new' rfl) _) hb1 (by (try simp only [World.size_alloc, World.size_setCell, World.size_drew, World.heap_drewN]); (first | done | omega | ((try simp only [World.size_alloc, World.size_setCell, World.size_drew, World.heap_drewN] at *); omega)))
  have h1F : Blk w1 (w.heap.size + 1) 27 #[.bool bk, .bool em, .slice G g gc, .slice P p pc, .slice Q q qc, .slice T t tc] := Blk.below (Blk.new' (by simp)) hb1 (by simp)
  have hB1 : Below w.heap.size w w1 := (by repeat (first | (with_reducible exact Below.refl _ _) | (with_reducible assumption) | (with_reducible refine Below.drew ?_) | (with_reducible refine below_drewN ?_ _) | (with_reducible refine Below.alloc ?_ (by (try simp only [World.size_alloc, World.size_setCell, World.size_drew, World.heap_drewN]); (first | done | omega | ((try simp only [World.size_alloc, World.size_setCell, World.size_drew, World.heap_drewN] at *); omega))) _) | (with_reducible refine Below.setCell ?_ (by (try simp only [World.size_alloc, World.size_setCell, World.size_drew, World.heap_drewN]); (first | done | omega | ((try simp only [World.size_alloc, World.size_setCell, World.size_drew, World.heap_drewN] at *); omega))) _) | (with_reducible refine Below.trans ?_ (Below.mono (by assumption) (by (try simp only [World.size_alloc, World.size_setCell, World.size_drew, World.heap_drewN]); (first | done | omega | ((try simp only [World.size_alloc, World.size_setCell, World.size_drew, World.heap_drewN] at *); omega)))))))
  have hyv := hry.vals
  have hyl := hgy.1.1
  rw [bools_length] at *
  have Hyl := hide hyl
  clear hb1 hry hyl
  have p0 := h1P.cell 0
  have p1 := h1P.cell 1
  have f0 := h1F.cell 0
  have f1 := h1F.cell 1
  have f2 := h1F.cell 2
  have f3 := h1F.cell 3
  have f4 := h1F.cell 4
  have f5 := h1F.cell 5
  simp only [List.getElem?_toArray, List.getElem?_cons_zero, List.getElem?_cons_succ] at p0 p1 f0 f1 f2 f3 f4 f5
  go_wp2_with fail
  refine (HH.out _ hB1).mono ?_
  rintro e w2 ⟨rfl, hb2⟩
  have hB2 : Below w.heap.size w w2 := hB1.trans (hb2.mono (by omega))
  have h2P := h1P.below hb2 h1P.lt
  have h2F := h1F.below hb2 h1F.lt
  clear p0 p1 f0 f1 f2 f3 f4 f5
  have p0 := h2P.cell 0
  have p1 := h2P.cell 1
  have f0 := h2F.cell 0
  have f1 := h2F.cell 1
  have f2 := h2F.cell 2
  have f3 := h2F.cell 3
  have f4 := h2F.cell 4
  have f5 := h2F.cell 5
  simp only [List.getElem?_toArray, List.getElem?_cons_zero, List.getElem?_cons_succ] at p0 p1 f0 f1 f2 f3 f4 f5
  have hz2 := hB2.size
  go_wp2_with fail
  refine (HE.out _ hB2).mono ?_
  rintro e w3 ⟨rfl, hb3⟩
  have hB3 : Below w.heap.size w w3 := hB2.trans (hb3.mono (by omega))
  have h3P := h2P.below hb3 h2P.lt
  have h3F := h2F.below hb3 h2F.lt
  clear p0 p1 f0 f1 f2 f3 f4 f5
  have p0 := h3P.cell 0
  have p1 := h3P.cell 1
  have f0 := h3F.cell 0
  have f1 := h3F.cell 1
  have f2 := h3F.cell 2
  have f3 := h3F.cell 3
  have f4 := h3F.cell 4
  have f5 := h3F.cell 5
  simp only [List.getElem?_toArray, List.getElem?_cons_zero, List.getElem?_cons_succ] at p0 p1 f0 f1 f2 f3 f4 f5
  have hz3 := hB3.size
  go_wp2_with fail
  refine (HV.out _ hB3).mono ?_
  rintro e w4 ⟨z, hgz, v4, rfl, hrz, hb4⟩
  have hzy : z = y := Great.unique hgz hgy
  subst hzy
  obtain ⟨Z, zc, rfl, _, _⟩ := hrz.shape
  rw [bools_length] at hrz
  have hB4 : Below w.heap.size w w4 := hB3.trans (hb4.mono (by omega))
  have hb14 : Below w1.heap.size w1 w4 := (hb2.trans (hb3.mono hb2.size)).trans (hb4.mono (Nat.le_trans hb2.size hb3.size))
  have hyv4 := hyv.below hb14
  have hzv4 := hrz.vals
  clear hrz hyv hgy hgz
  have h4P := h3P.below hb4 h3P.lt
  have h4F := h3F.below hb4 h3F.lt
  clear p0 p1 f0 f1 f2 f3 f4 f5
  have p0 := h4P.cell 0
  have p1 := h4P.cell 1
  have f0 := h4F.cell 0
  have f1 := h4F.cell 1
  have f2 := h4F.cell 2
  have f3 := h4F.cell 3
  have f4 := h4F.cell 4
  have f5 := h4F.cell 5
  simp only [List.getElem?_toArray, List.getElem?_cons_zero, List.getElem?_cons_succ] at p0 p1 f0 f1 f2 f3 f4 f5
  have hz4 := hB4.size
  have hb5 : Below w4.heap.size w4 w4 := Below.refl _ _
  have hB5 := hB4
  have h5P := h4P
  have h5F := h4F
  go_wp2_with fail
  refine (flowBegun_any w4).mono ?_
  rintro e w6 ⟨rfl, hb6⟩
  have hB6 : Below w.heap.size w w6 := hB5.trans (hb6.mono (by omega))
  have h6P := h5P.below hb6 h5P.lt
  have h6F := h5F.below hb6 h5F.lt
  clear p0 p1 f0 f1 f2 f3 f4 f5
  have p0 := h6P.cell 0
  have p1 := h6P.cell 1
  have f0 := h6F.cell 0
  have f1 := h6F.cell 1
  have f2 := h6F.cell 2
  have f3 := h6F.cell 3
  have f4 := h6F.cell 4
  have f5 := h6F.cell 5
  simp only [List.getElem?_toArray, List.getElem?_cons_zero, List.getElem?_cons_succ] at p0 p1 f0 f1 f2 f3 f4 f5
  have hz6 := hB6.size
  have hb46 : Below w4.heap.size w4 w6 := hb5.trans (hb6.mono hb5.size)
  go_wp2_with fail
  refine (HC.out _ hB6).mono ?_
  rintro e w7 ⟨rfl, hb7⟩
  have hB7 : Below w.heap.size w w7 := hB6.trans (hb7.mono (by omega))
  have hb47 : Below w4.heap.size w4 w7 := hb46.trans (hb7.mono hb46.size)
  have hz7 := hB7.size
  have hzl : z.length ≤ maxLen := by rw [Hyl.out]; unfold maxLen; omega
  go_wp2_with fail
  rw [bools_length]
  refine (SameBools_any Y Z yc zc z z w7 (hyv4.below hb47) (hzv4.below hb47) hzl hzl).mono ?_
  rw [show (z == z) = true by simp]
  rintro e w8 ⟨rfl, d, rfl⟩
  go_wp2_with fail
  go_ret
  exact ⟨rfl, below_drewN hB7 _⟩

set_option maxRecDepth 100000 in
theorem law_same (hA : NodesAt w A l) (hml : l.length ≤ maxLen) (hxm : xn ≤ maxLen) (hfe : fchk regs l g p q t = 0)
    (hG : ValsAt w G (bools gen)) (hP : ValsAt w P (bools pass)) (hQ : ValsAt w Q (bools plus)) (hT : ValsAt w T (bools lt)) (hX : ValsAt w X (bools x))
    (hg : gen.length = g) (hp : pass.length = p) (hq : plus.length = q) (ht : lt.length = t) (hx : x.length = xn) (hxn : xn = l.length) :
    Calls Try.prog 3 #[.agg #[.int .i64 regs, .slice A l.length cap], .agg #[.bool bk, .bool em, .slice G g gc, .slice P p pc, .slice Q q qc, .slice T t tc], .slice X xn xc] w
      fun e w' => e = .returned (.bool true) ∧ Below w.heap.size w w' := by
  have hS := fun W (hW : Below w.heap.size w W) => Solve_ok regs A l cap bk em G P Q T g p q t gc pc qc tc W (hA.below hW) hml gen pass plus lt (hG.below hW) (hP.below hW) (hQ.below hW) (hT.below hW) hg hp hq ht hfe
  have hH := fun W (hW : Below w.heap.size w W) => Holds_ok regs A l cap bk em G P Q T X g p q t xn gc pc qc tc xc W (hA.below hW) hml gen pass plus lt x (hG.below hW) (hP.below hW) (hQ.below hW) (hT.below hW) (hX.below hW) hg hp hq ht hx hfe hxn
  have hE := fun W (hW : Below w.heap.size w W) => FlowError_any CheckProg_any regs A l cap bk em G P Q T g p q t gc pc qc tc W hml (hA.below hW)
  have hC := fun W (hW : Below w.heap.size w W) => FCheck_any regs A l cap bk em G P Q T g p q t gc pc qc tc W hml (hA.below hW)
  obtain ⟨hR, e1, e2, e3, e4⟩ := fchk_zero hfe
  have hlo := hR.lo
  have hhi := hR.hi
  have hV := fun W (hW : Below w.heap.size w W) => SolveOf_any regs A l cap bk em G P Q T g p q t gc pc qc tc gen pass plus lt W (hA.below hW) ⟨hlo, hhi⟩ (hG.below hW) (hP.below hW) (hQ.below hW) (hT.below hW) hg hp hq ht e1 e2 e3 e4
  have hO := fun W (hW : Below w.heap.size w W) => HoldsOf_any regs A l cap bk em G P Q T X g p q t xn gc pc qc tc xc gen pass plus lt x W (hA.below hW) ⟨hlo, hhi⟩ (hG.below hW) (hP.below hW) (hQ.below hW) (hT.below hW) (hX.below hW) hg hp hq ht hx e1 e2 e3 e4 hxn
  have HO := hide hO
  clear hO
  generalize hhb : holdsB (flowS bk em gen pass plus lt l) l.length x = hb_ at *
  clear hhb
  rw [hfe] at hE hC
  have HS := hide hS
  have HH := hide hH
  have HE := hide hE
  have HC := hide hC
  have HV := hide hV
  clear hS hH hE hC hV hfe e1 e2 e3 e4 hR hG hP hQ hT hX hg hp hq ht hx
  unfold maxLen at hxm
  subst hxn
  have hne : ((l.length : Int) != (l.length : Int)) = false := by simp
  have hself : (hb_ == hb_) = true := by simp
  go_enter Try.func3, Try.ntmps3
  go_wp2_with fail
  refine (HS.out _ (by repeat (first | (with_reducible exact Below.refl _ _) | (with_reducible assumption) | (with_reducible refine Below.drew ?_) | (with_reducible refine below_drewN ?_ _) | (with_reducible refine Below.alloc ?_ (by (try simp only [World.size_alloc, World.size_setCell, World.size_drew, World.heap_drewN]); (first | done | omega | ((try simp only [World.size_alloc, World.size_setCell, World.size_drew, World.heap_drewN] at *); omega))) _) | (with_reducible refine Below.setCell ?_ (by (try simp only [World.size_alloc, World.size_setCell, World.size_drew, World.heap_drewN]); (first | done | omega | ((try simp only [World.size_alloc, World.size_setCell, World.size_drew, World.heap_drewN] at *); omega))) _) | (with_reducible refine Below.trans ?_ (Below.mono (by assumption) (by (try simp only [World.size_alloc, World.size_setCell, World.size_drew, World.heap_drewN]); (first | done | omega | ((try simp only [World.size_alloc, World.size_setCell, World.size_drew, World.heap_drewN] at *); omega)))))))).mono ?_
  rintro e w1 ⟨y, v1, hgy, rfl, hry, hb1⟩
  obtain ⟨Y, yc, rfl, _, _⟩ := hry.shape
  have hz1 := hb1.size
  simp only [World.size_alloc] at hz1
  have h1P : Blk w1 w.heap.size 24 #[.int .i64 regs, .slice A l.length cap] := Blk.below (Blk.alloc (Blk.new' rfl) _) hb1 (by (try simp only [World.size_alloc, World.size_setCell, World.size_drew, World.heap_drewN]); (first | done | omega | ((try simp only [World.size_alloc, World.size_setCell, World.size_drew, World.heap_drewN] at *); omega)))
  have h1F : Blk w1 (w.heap.size + 1) 27 #[.bool bk, .bool em, .slice G g gc, .slice P p pc, .slice Q q qc, .slice T t tc] := Blk.below (Blk.new' (by simp)) hb1 (by simp)
  have hB1 : Below w.heap.size w w1 := (by repeat (first | (with_reducible exact Below.refl _ _) | (with_reducible assumption) | (with_reducible refine Below.drew ?_) | (with_reducible refine below_drewN ?_ _) | (with_reducible refine Below.alloc ?_ (by (try simp only [World.size_alloc, World.size_setCell, World.size_drew, World.heap_drewN]); (first | done | omega | ((try simp only [World.size_alloc, World.size_setCell, World.size_drew, World.heap_drewN] at *); omega))) _) | (with_reducible refine Below.setCell ?_ (by (try simp only [World.size_alloc, World.size_setCell, World.size_drew, World.heap_drewN]); (first | done | omega | ((try simp only [World.size_alloc, World.size_setCell, World.size_drew, World.heap_drewN] at *); omega))) _) | (with_reducible refine Below.trans ?_ (Below.mono (by assumption) (by (try simp only [World.size_alloc, World.size_setCell, World.size_drew, World.heap_drewN]); (first | done | omega | ((try simp only [World.size_alloc, World.size_setCell, World.size_drew, World.heap_drewN] at *); omega)))))))
  have hyv := hry.vals
  have hyl := hgy.1.1
  rw [bools_length] at *
  have Hyl := hide hyl
  clear hb1 hry hyl
  have p0 := h1P.cell 0
  have p1 := h1P.cell 1
  have f0 := h1F.cell 0
  have f1 := h1F.cell 1
  have f2 := h1F.cell 2
  have f3 := h1F.cell 3
  have f4 := h1F.cell 4
  have f5 := h1F.cell 5
  simp only [List.getElem?_toArray, List.getElem?_cons_zero, List.getElem?_cons_succ] at p0 p1 f0 f1 f2 f3 f4 f5
  go_wp2_with fail
  refine (HH.out _ hB1).mono ?_
  rintro e w2 ⟨rfl, hb2⟩
  have hB2 : Below w.heap.size w w2 := hB1.trans (hb2.mono (by omega))
  have h2P := h1P.below hb2 h1P.lt
  have h2F := h1F.below hb2 h1F.lt
  clear p0 p1 f0 f1 f2 f3 f4 f5
  have p0 := h2P.cell 0
  have p1 := h2P.cell 1
  have f0 := h2F.cell 0
  have f1 := h2F.cell 1
  have f2 := h2F.cell 2
  have f3 := h2F.cell 3
  have f4 := h2F.cell 4
  have f5 := h2F.cell 5
  simp only [List.getElem?_toArray, List.getElem?_cons_zero, List.getElem?_cons_succ] at p0 p1 f0 f1 f2 f3 f4 f5
  have hz2 := hB2.size
  go_wp2_with fail
  refine (HE.out _ hB2).mono ?_
  rintro e w3 ⟨rfl, hb3⟩
  have hB3 : Below w.heap.size w w3 := hB2.trans (hb3.mono (by omega))
  have h3P := h2P.below hb3 h2P.lt
  have h3F := h2F.below hb3 h2F.lt
  clear p0 p1 f0 f1 f2 f3 f4 f5
  have p0 := h3P.cell 0
  have p1 := h3P.cell 1
  have f0 := h3F.cell 0
  have f1 := h3F.cell 1
  have f2 := h3F.cell 2
  have f3 := h3F.cell 3
  have f4 := h3F.cell 4
  have f5 := h3F.cell 5
  simp only [List.getElem?_toArray, List.getElem?_cons_zero, List.getElem?_cons_succ] at p0 p1 f0 f1 f2 f3 f4 f5
  have hz3 := hB3.size
  go_wp2_with fail
  refine (HV.out _ hB3).mono ?_
  rintro e w4 ⟨z, hgz, v4, rfl, hrz, hb4⟩
  have hzy : z = y := Great.unique hgz hgy
  subst hzy
  obtain ⟨Z, zc, rfl, _, _⟩ := hrz.shape
  rw [bools_length] at hrz
  have hB4 : Below w.heap.size w w4 := hB3.trans (hb4.mono (by omega))
  have hb14 : Below w1.heap.size w1 w4 := (hb2.trans (hb3.mono hb2.size)).trans (hb4.mono (Nat.le_trans hb2.size hb3.size))
  have hyv4 := hyv.below hb14
  have hzv4 := hrz.vals
  clear hrz hyv hgy hgz
  have h4P := h3P.below hb4 h3P.lt
  have h4F := h3F.below hb4 h3F.lt
  clear p0 p1 f0 f1 f2 f3 f4 f5
  have p0 := h4P.cell 0
  have p1 := h4P.cell 1
  have f0 := h4F.cell 0
  have f1 := h4F.cell 1
  have f2 := h4F.cell 2
  have f3 := h4F.cell 3
  have f4 := h4F.cell 4
  have f5 := h4F.cell 5
  simp only [List.getElem?_toArray, List.getElem?_cons_zero, List.getElem?_cons_succ] at p0 p1 f0 f1 f2 f3 f4 f5
  have hz4 := hB4.size
  go_wp2_with fail
  refine (HO.out _ hB4).mono ?_
  rintro e w5 ⟨rfl, hb5⟩
  have hB5 : Below w.heap.size w w5 := hB4.trans (hb5.mono (by omega))
  have h5P := h4P.below hb5 h4P.lt
  have h5F := h4F.below hb5 h4F.lt
  clear p0 p1 f0 f1 f2 f3 f4 f5
  have p0 := h5P.cell 0
  have p1 := h5P.cell 1
  have f0 := h5F.cell 0
  have f1 := h5F.cell 1
  have f2 := h5F.cell 2
  have f3 := h5F.cell 3
  have f4 := h5F.cell 4
  have f5 := h5F.cell 5
  simp only [List.getElem?_toArray, List.getElem?_cons_zero, List.getElem?_cons_succ] at p0 p1 f0 f1 f2 f3 f4 f5
  have hz5 := hB5.size
  go_wp2_with fail
  refine (flowBegun_any w5).mono ?_
  rintro e w6 ⟨rfl, hb6⟩
  have hB6 : Below w.heap.size w w6 := hB5.trans (hb6.mono (by omega))
  have h6P := h5P.below hb6 h5P.lt
  have h6F := h5F.below hb6 h5F.lt
  clear p0 p1 f0 f1 f2 f3 f4 f5
  have p0 := h6P.cell 0
  have p1 := h6P.cell 1
  have f0 := h6F.cell 0
  have f1 := h6F.cell 1
  have f2 := h6F.cell 2
  have f3 := h6F.cell 3
  have f4 := h6F.cell 4
  have f5 := h6F.cell 5
  simp only [List.getElem?_toArray, List.getElem?_cons_zero, List.getElem?_cons_succ] at p0 p1 f0 f1 f2 f3 f4 f5
  have hz6 := hB6.size
  have hb46 : Below w4.heap.size w4 w6 := hb5.trans (hb6.mono hb5.size)
  go_wp2_with fail
  refine (HC.out _ hB6).mono ?_
  rintro e w7 ⟨rfl, hb7⟩
  have hB7 : Below w.heap.size w w7 := hB6.trans (hb7.mono (by omega))
  have hb47 : Below w4.heap.size w4 w7 := hb46.trans (hb7.mono hb46.size)
  have hz7 := hB7.size
  have hzl : z.length ≤ maxLen := by rw [Hyl.out]; unfold maxLen; omega
  go_wp2_with fail
  rw [bools_length]
  refine (SameBools_any Y Z yc zc z z w7 (hyv4.below hb47) (hzv4.below hb47) hzl hzl).mono ?_
  rw [show (z == z) = true by simp]
  rintro e w8 ⟨rfl, d, rfl⟩
  go_wp2_with fail
  go_ret
  exact ⟨rfl, below_drewN hB7 _⟩
end
end Go.Proofs.Ytmghkonmfbpjcaa
