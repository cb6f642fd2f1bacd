/- FlowGreatest: the law, walked. -/
import Derived.Test.YtmghkonmfbpjcaaFlowB
namespace Go.Proofs.Ytmghkonmfbpjcaa
set_option linter.unusedVariables false
set_option linter.unusedSimpArgs false
open Go.RowKit
set_option maxHeartbeats 4000000

section
variable (regs : Int) (A : Option Addr) (l : List Nd) (cap : Nat) (bk em : Bool) (G P Q T X : Option Addr) (g p q t xn gc pc qc tc xc : Nat) (w : World)
set_option maxRecDepth 100000 in
theorem great_err (hA : NodesAt w A l) (hml : l.length ≤ maxLen) (hxm : xn ≤ maxLen) (hfe : fchk regs l g p q t ≠ 0) :
    Calls Try.prog 4 #[.agg #[.int .i64 regs, .slice A l.length cap], .agg #[.bool bk, .bool em, .slice G g gc, .slice P p pc, .slice Q q qc, .slice T t tc], .slice X xn xc] w
      fun e w' => e = .returned (.bool true) ∧ Below w.heap.size w w' := by
  have hS := fun W (hW : Below w.heap.size w W) => Solve_err regs A l cap bk em G P Q T g p q t gc pc qc tc W (hA.below hW) hml hfe
  have HS := hide hS
  clear hS
  generalize fchk regs l g p q t = fe at *
  have hne : (fe != 0) = true := by simpa using hfe
  clear hfe
  go_enter Try.func4, Try.ntmps4
  go_wp2_with fail
  refine (HS.out _ (by repeat (first | (with_reducible exact Below.refl _ _) | (with_reducible assumption) | (with_reducible refine Below.drew ?_) | (with_reducible refine below_drewN ?_ _) | (with_reducible refine Below.alloc ?_ (by (try simp only [World.size_alloc, World.size_setCell, World.size_drew, World.heap_drewN]); (first | done | omega | ((try simp only [World.size_alloc, World.size_setCell, World.size_drew, World.heap_drewN] at *); omega))) _) | (with_reducible refine Below.setCell ?_ (by (try simp only [World.size_alloc, World.size_setCell, World.size_drew, World.heap_drewN]); (first | done | omega | ((try simp only [World.size_alloc, World.size_setCell, World.size_drew, World.heap_drewN] at *); omega))) _) | (with_reducible refine Below.trans ?_ (Below.mono (by assumption) (by (try simp only [World.size_alloc, World.size_setCell, World.size_drew, World.heap_drewN]); (first | done | omega | ((try simp only [World.size_alloc, World.size_setCell, World.size_drew, World.heap_drewN] at *); omega)))))))).mono ?_
  rintro e w1 ⟨rfl, hb1⟩
  have hz1 := hb1.size
  simp only [World.size_alloc] at hz1
  have hB1 : Below w.heap.size w w1 := (by repeat (first | (with_reducible exact Below.refl _ _) | (with_reducible assumption) | (with_reducible refine Below.drew ?_) | (with_reducible refine below_drewN ?_ _) | (with_reducible refine Below.alloc ?_ (by (try simp only [World.size_alloc, World.size_setCell, World.size_drew, World.heap_drewN]); (first | done | omega | ((try simp only [World.size_alloc, World.size_setCell, World.size_drew, World.heap_drewN] at *); omega))) _) | (with_reducible refine Below.setCell ?_ (by (try simp only [World.size_alloc, World.size_setCell, World.size_drew, World.heap_drewN]); (first | done | omega | ((try simp only [World.size_alloc, World.size_setCell, World.size_drew, World.heap_drewN] at *); omega))) _) | (with_reducible refine Below.trans ?_ (Below.mono (by assumption) (by (try simp only [World.size_alloc, World.size_setCell, World.size_drew, World.heap_drewN]); (first | done | omega | ((try simp only [World.size_alloc, World.size_setCell, World.size_drew, World.heap_drewN] at *); omega)))))))
  clear hb1
  go_wp2_with fail
  refine (flowBegun_any w1).mono ?_
  rintro e w4 ⟨rfl, hb4⟩
  have hB4 : Below w.heap.size w w4 := hB1.trans (hb4.mono (by omega))
  go_wp2_with fail
  go_ret
  exact ⟨rfl, hB4⟩

variable (gen pass plus lt x : List Bool)
set_option maxRecDepth 100000 in
theorem great_ok (hA : NodesAt w A l) (hml : l.length ≤ maxLen) (hxm : xn ≤ maxLen) (hfe : fchk regs l g p q t = 0)
    (hG : ValsAt w G (bools gen)) (hP : ValsAt w P (bools pass)) (hQ : ValsAt w Q (bools plus)) (hT : ValsAt w T (bools lt)) (hX : ValsAt w X (bools x))
    (hg : gen.length = g) (hp : pass.length = p) (hq : plus.length = q) (ht : lt.length = t) (hx : x.length = xn) (ob : Bool) (oc : Int)
    (hH : ∀ W, Below w.heap.size w W → Calls Try.prog 12 #[.agg #[.int .i64 regs, .slice A l.length cap], .agg #[.bool bk, .bool em, .slice G g gc, .slice P p pc, .slice Q q qc, .slice T t tc], .slice X xn xc] W
      fun e w' => e = .returned (.tuple #[.bool ob, .int .i64 oc]) ∧ Below W.heap.size W w')
    (hgood : oc = 0 → ob = true → Ans (flowS bk em gen pass plus lt l) l.length x) :
    Calls Try.prog 4 #[.agg #[.int .i64 regs, .slice A l.length cap], .agg #[.bool bk, .bool em, .slice G g gc, .slice P p pc, .slice Q q qc, .slice T t tc], .slice X xn xc] w
      fun e w' => e = .returned (.bool true) ∧ Below w.heap.size w w' := by
  have hS := fun W (hW : Below w.heap.size w W) => Solve_ok regs A l cap bk em G P Q T g p q t gc pc qc tc W (hA.below hW) hml gen pass plus lt (hG.below hW) (hP.below hW) (hQ.below hW) (hT.below hW) hg hp hq ht hfe
  have hI := fun W (y : List Bool) (Y : Option Addr) (yc : Nat) (hW : Below w.heap.size w W) (hY : ValsAt W Y (bools y)) (hyl : y.length = l.length) => Holds_ok regs A l cap bk em G P Q T Y g p q t y.length gc pc qc tc yc W (hA.below hW) hml gen pass plus lt y (hG.below hW) (hP.below hW) (hQ.below hW) (hT.below hW) hY hg hp hq ht rfl hfe hyl
  have HS := hide hS
  have HI := hide hI
  have HH := hide hH
  have Hgood := hide hgood
  subst hx
  clear hS hI hH hgood hfe hG hP hQ hT hg hp hq ht
  unfold maxLen at hxm
  go_enter Try.func4, Try.ntmps4
  go_wp2_with fail
  refine (HS.out _ (by repeat (first | (with_reducible exact Below.refl _ _) | (with_reducible assumption) | (with_reducible refine Below.drew ?_) | (with_reducible refine below_drewN ?_ _) | (with_reducible refine Below.alloc ?_ (by (try simp only [World.size_alloc, World.size_setCell, World.size_drew, World.heap_drewN]); (first | done | omega | ((try simp only [World.size_alloc, World.size_setCell, World.size_drew, World.heap_drewN] at *); omega))) _) | (with_reducible refine Below.setCell ?_ (by (try simp only [World.size_alloc, World.size_setCell, World.size_drew, World.heap_drewN]); (first | done | omega | ((try simp only [World.size_alloc, World.size_setCell, World.size_drew, World.heap_drewN] at *); omega))) _) | (with_reducible refine Below.trans ?_ (Below.mono (by assumption) (by (try simp only [World.size_alloc, World.size_setCell, World.size_drew, World.heap_drewN]); (first | done | omega | ((try simp only [World.size_alloc, World.size_setCell, World.size_drew, World.heap_drewN] at *); omega)))))))).mono ?_
  rintro e w1 ⟨y, v1, hgy, rfl, hry, hb1⟩
  obtain ⟨Y, yc, rfl, _, _⟩ := hry.shape
  have hz1 := hb1.size
  simp only [World.size_alloc] at hz1
  have h1P : Blk w1 w.heap.size 24 #[.int .i64 regs, .slice A l.length cap] := Blk.below (Blk.alloc (Blk.new' rfl) _) hb1 (by (try simp only [World.size_alloc, World.size_setCell, World.size_drew, World.heap_drewN]); (first | done | omega | ((try simp only [World.size_alloc, World.size_setCell, World.size_drew, World.heap_drewN] at *); omega)))
  have h1F : Blk w1 (w.heap.size + 1) 27 #[.bool bk, .bool em, .slice G g gc, .slice P p pc, .slice Q q qc, .slice T t tc] := Blk.below (Blk.new' (by simp)) hb1 (by simp)
  have hB1 : Below w.heap.size w w1 := (by repeat (first | (with_reducible exact Below.refl _ _) | (with_reducible assumption) | (with_reducible refine Below.drew ?_) | (with_reducible refine below_drewN ?_ _) | (with_reducible refine Below.alloc ?_ (by (try simp only [World.size_alloc, World.size_setCell, World.size_drew, World.heap_drewN]); (first | done | omega | ((try simp only [World.size_alloc, World.size_setCell, World.size_drew, World.heap_drewN] at *); omega))) _) | (with_reducible refine Below.setCell ?_ (by (try simp only [World.size_alloc, World.size_setCell, World.size_drew, World.heap_drewN]); (first | done | omega | ((try simp only [World.size_alloc, World.size_setCell, World.size_drew, World.heap_drewN] at *); omega))) _) | (with_reducible refine Below.trans ?_ (Below.mono (by assumption) (by (try simp only [World.size_alloc, World.size_setCell, World.size_drew, World.heap_drewN]); (first | done | omega | ((try simp only [World.size_alloc, World.size_setCell, World.size_drew, World.heap_drewN] at *); omega)))))))
  have hyv := hry.vals
  have hyl := hgy.1.1
  have hyh : holdsB (flowS bk em gen pass plus lt l) l.length y = true := (holdsB_iff hyl).2 hgy.1
  rw [bools_length] at *
  have Hyl := hide hyl
  have Hyh := hide hyh
  have Hgy := hide hgy
  clear hb1 hry hyl hyh hgy
  have p0 := h1P.cell 0
  have p1 := h1P.cell 1
  have f0 := h1F.cell 0
  have f1 := h1F.cell 1
  have f2 := h1F.cell 2
  have f3 := h1F.cell 3
  have f4 := h1F.cell 4
  have f5 := h1F.cell 5
  simp only [List.getElem?_toArray, List.getElem?_cons_zero, List.getElem?_cons_succ] at p0 p1 f0 f1 f2 f3 f4 f5
  go_wp2_with fail
  refine (HI.out _ y Y yc hB1 hyv Hyl.out).mono ?_
  rw [Hyh.out]
  rintro e w2 ⟨rfl, hb2⟩
  have hB2 : Below w.heap.size w w2 := hB1.trans (hb2.mono (by omega))
  have h2P := h1P.below hb2 h1P.lt
  have h2F := h1F.below hb2 h1F.lt
  clear p0 p1 f0 f1 f2 f3 f4 f5
  have p0 := h2P.cell 0
  have p1 := h2P.cell 1
  have f0 := h2F.cell 0
  have f1 := h2F.cell 1
  have f2 := h2F.cell 2
  have f3 := h2F.cell 3
  have f4 := h2F.cell 4
  have f5 := h2F.cell 5
  simp only [List.getElem?_toArray, List.getElem?_cons_zero, List.getElem?_cons_succ] at p0 p1 f0 f1 f2 f3 f4 f5
  have hz2 := hB2.size
  go_wp2_with fail
  refine (HH.out _ hB2).mono ?_
  rintro e w3 ⟨rfl, hb3⟩
  have hB3 : Below w.heap.size w w3 := hB2.trans (hb3.mono (by omega))
  have hz3 := hB3.size
  have hb13 : Below w1.heap.size w1 w3 := hb2.trans (hb3.mono hb2.size)
  have hyv3 := hyv.below hb13
  have hxv3 := hX.below hB3
  clear hyv hX hb2 hb3 p0 p1 f0 f1 f2 f3 f4 f5 h2P h2F h1P h1F hb13
  go_wp2_with fail
  go_loopg [13] (x.length) (fun gk i wr => ∃ k : Nat, k ≤ x.length ∧ i = .int .i64 k ∧ gk = x.length - k ∧ ∃ d, wr = w3.drewN d)
  case atStart => exact ⟨0, Nat.zero_le _, rfl, by omega, 0, rfl⟩
  case round =>
    obtain ⟨k, hk, rfl, hgk, d, rfl⟩ := hrel
    have Hgk := hide hgk
    clear hgk
    by_cases hlt : k < x.length
    · have kx : ((k : Int) < (x.length : Int)) = True := by simp; omega
      cases hoc : (oc == 0)
      case false =>
        go_wp2_with fail
        go_wp2_with fail
        refine (flowBegun_any _).mono ?_
        rintro e w6 ⟨rfl, hb6⟩
        go_wp2_with fail
        go_ret
        exact ⟨rfl, (below_drewN hB3 _).trans (hb6.mono (by simp <;> omega))⟩
      case true =>
        have hoc0 : oc = 0 := by simpa using hoc
        subst hoc0
        cases ob
        case false =>
          go_wp2_with fail
          go_wp2_with fail
          refine (flowBegun_any _).mono ?_
          rintro e w6 ⟨rfl, hb6⟩
          go_wp2_with fail
          go_ret
          exact ⟨rfl, (below_drewN hB3 _).trans (hb6.mono (by simp <;> omega))⟩
        case true =>
          have hans := Hgood.out rfl rfl
          have hle : yn x k = true → yn y k = true := Hgy.out.ans_le hans k
          have hlen : x.length = y.length := hans.1.trans Hyl.out.symm
          have hlt2 : k < y.length := by omega
          obtain ⟨xb, xo, rfl, hxb, cx⟩ := hxv3.bool hlt
          obtain ⟨yb, yo, rfl, hyb, cy⟩ := hyv3.bool hlt2
          have k0 : (0 : Int) ≤ (k : Int) := by omega
          have k1 : (k : Int) < (x.length : Int) := by omega
          have k2 : (k : Int) < (y.length : Int) := by omega
          have Hans := hide hans
          have Hle := hide hle
          have Hlen := hide hlen
          clear hxv3 hyv3 hans hle hlen kx
          cases hxk : yn x k
          case false =>
            rw [hxk] at cx
            go_wp2_with fail
            go_roundg (x.length - (k + 1))
            case measure => have := Hgk.out; omega
            case rel => exact ⟨k + 1, by omega, by go_num, rfl, _, rfl⟩
          case true =>
            have hyk := Hle.out hxk
            rw [hxk] at cx
            rw [hyk] at cy
            go_wp2_with fail
            go_roundg (x.length - (k + 1))
            case measure => have := Hgk.out; omega
            case rel => exact ⟨k + 1, by omega, by go_num, rfl, _, rfl⟩
    · have hkx : k = x.length := by omega
      go_wp2_with fail
      go_wp2_with fail
      refine (flowBegun_any _).mono ?_
      rintro e w6 ⟨rfl, hb6⟩
      go_wp2_with fail
      go_ret
      exact ⟨rfl, (below_drewN hB3 _).trans (hb6.mono (by simp <;> omega))⟩
end
end Go.Proofs.Ytmghkonmfbpjcaa
