/- The reference's SameInts, SameProgs, OwnProg; slices.Clone of nodes. -/
import Derived.Test.YtmghkonmfbpjcabDoorNRow
import Derived.Test.YtmghkonmfbpjcabDoorOps
import Derived.Deep.LoopGhost
import Derived.Deep.QuietTactic
import Derived.BigQuiet
import Derived.WalkSpells
import Derived.Deep.RegionLaw
import Derived.Laws.StructEq
namespace Go.Proofs.YtmghkonmfbpjcabDoor
set_option linter.unusedVariables false
set_option linter.unusedSimpArgs false
open Go.RowKit
set_option maxHeartbeats 2000000

theorem ext_get {α : Type} {x y : List α} (hl : x.length = y.length) (h : ∀ (i : Nat), i < x.length → x[i]? = y[i]?) : x = y := by
  apply List.ext_getElem? 
  intro i
  by_cases hi : i < x.length
  · exact h i hi
  · rw [List.getElem?_eq_none (by omega), List.getElem?_eq_none (by omega)]
theorem ValsAt.int {w : World} {A : Option Addr} {l : List Int} (h : ValsAt w A (ints l)) {k : Nat} (hk : k < l.length) :
    ∃ b off z, A = some ⟨b, off, none⟩ ∧ b < w.heap.size ∧ l[k]? = some z ∧ w.cell? ⟨b, off + k, none⟩ = some (.int .i64 z) := by
  obtain ⟨b, off, v, e, hb, hv, hc⟩ := h.get (k := k) (by rw [ints_length]; exact hk)
  rw [ints_get, List.getElem?_eq_getElem hk] at hv
  simp at hv
  subst hv
  exact ⟨b, off, l[k], e, hb, List.getElem?_eq_getElem hk, hc⟩

theorem SameInts_any (X Y : Option Addr) (xc yc : Nat) (x y : List Int) (w : World) (hX : ValsAt w X (ints x)) (hY : ValsAt w Y (ints y)) (hx : x.length ≤ maxLen) (hy : y.length ≤ maxLen) :
    Calls Tryd.prog 13 #[.slice X x.length xc, .slice Y y.length yc] w fun e w' => e = .returned (.bool (x == y)) ∧ ∃ d, w' = w.drewN d := by
  unfold maxLen at hx hy
  by_cases hl : x.length = y.length
  · have Hl := hide hl
    have h1 : ((x.length : Int) != (y.length : Int)) = false := by simp [hl]
    clear hl
    go_enter Tryd.func13, Tryd.ntmps13
    go_wp2_with fail
    go_loopg [5] (x.length) (fun gk i wr => ∃ k : Nat, k ≤ x.length ∧ i = .int .i64 k ∧ gk = x.length - k ∧ (∀ j, j < k → x[j]? = y[j]?) ∧ ∃ d, wr = w.drewN d)
    case atStart => exact ⟨0, Nat.zero_le _, rfl, by omega, fun j hj => by omega, 0, rfl⟩
    case round =>
      obtain ⟨k, hk, rfl, hgk, hno, d, rfl⟩ := hrel
      have Hgk := hide hgk
      have Hno := hide hno
      clear hgk hno
      by_cases hlt : k < x.length
      · have hlt2 : k < y.length := by rw [← Hl.out]; exact hlt
        obtain ⟨xb, xo, u, rfl, hxb, hu, cx⟩ := hX.int hlt
        obtain ⟨yb, yo, v, rfl, hyb, hv, cy⟩ := hY.int hlt2
        have Hu := hide hu
        have Hv := hide hv
        have k0 : (0 : Int) ≤ (k : Int) := by omega
        have k1 : (k : Int) < (x.length : Int) := by omega
        have k2 : (k : Int) < (y.length : Int) := by omega
        clear hX hY hu hv
        cases hq : (u != v)
        case true =>
          have hf : (x == y) = false := by
            rw [beq_eq_false_iff_ne]
            rintro rfl
            have := Hu.out.symm.trans Hv.out
            injection this with this
            subst this
            simp at hq
          have Hf := hide hf
          clear hf
          go_wp2_with fail
          go_quiet (fail)
          go_wp2_with fail
          go_ret
          exact ⟨by rw [Hf.out]; rfl, d + nq, by simp⟩
        case false =>
          have Hq := hide hq
          go_wp2_with fail
          go_quiet (fail)
          go_wp2_with fail
          go_roundg (x.length - (k + 1))
          case measure => have := Hgk.out; omega
          case rel =>
            refine ⟨k + 1, by omega, by go_num, rfl, fun j hj => ?_, d + nq, by simp⟩
            by_cases hjk : j = k
            · subst hjk
              rw [Hu.out, Hv.out]
              have := Hq.out
              simp at this
              rw [this]
            · exact Hno.out j (by omega)
      · have hf : (x == y) = true := by
          rw [beq_iff_eq]
          exact ext_get Hl.out fun i hi => Hno.out i (by omega)
        have Hf := hide hf
        clear hf
        go_wp2_with fail
        go_ret
        exact ⟨by rw [Hf.out]; rfl, _, rfl⟩
  · have hf : (x == y) = false := by
      rw [beq_eq_false_iff_ne]
      intro e
      exact hl (by rw [e])
    rw [hf]
    have h1 : ((x.length : Int) != (y.length : Int)) = true := by simp; omega
    clear hf hl
    go_enter Tryd.func13, Tryd.ntmps13
    go_wp2_with fail
    go_ret
    exact ⟨rfl, 0, rfl⟩

theorem infoNode : (Tryd.prog.info? 55).map (fun i => (i.zero, i.size, i.bytes)) = some (some (.agg #[.int .i64 0, .int .i64 0, .int .i64 0, .int .i64 0, .int .i64 0, .int .i64 0]), 6, 48) := by kernel_rfl
def NRowPost (B : Nat) (t : TypeId) (l : List Nd) (w : World) (e : Ending) (w' : World) : Prop := ∃ v, e = .returned v ∧ NRow w' B t v l ∧ Below w.heap.size w w'

theorem Clone_any (A : Option Addr) (l : List Nd) (cap : Nat) (w : World) (hA : NodesAt w A l) (hl : 1 ≤ l.length) (hl2 : l.length ≤ 65536) :
    Calls Tryd.prog 21 #[.slice A l.length cap] w (NRowPost w.heap.size 55 l w) := by
  obtain ⟨i3, h3i, h3z, h3s, h3b⟩ := info_parts infoNode
  obtain ⟨b, off, n0, rfl, hb, hn0, hlie⟩ := hA.get (k := 0) (by omega)
  have HN := hide hn0
  clear hn0 hlie
  have hne := fun W => Lib.run_eql_slice_nil (P := Tryd.prog) W
  go_enter Tryd.func21, Tryd.ntmps21
  go_wp2_with (at_builtin; refine wpList_append_nodes (v := .slice (some ⟨w.heap.size, 0, none⟩) 0 0) (l := []) (base := w.heap.size) rfl _ _ _ rfl i3 _ 48 Tryd.underlying22 h3i h3z h3s h3b rfl rfl (NRow.empty rfl (Nat.le_refl _)) (some ⟨b, off, none⟩) l.length cap l rfl rfl (hA.below (by repeat (first | (with_reducible exact Below.refl _ _) | (with_reducible assumption) | (with_reducible refine Below.drew ?_) | (with_reducible refine below_drewN ?_ _) | (with_reducible refine Below.alloc ?_ (by (try simp only [World.size_alloc, World.size_setCell, World.size_drew, World.heap_drewN]); (first | done | omega | ((try simp only [World.size_alloc, World.size_setCell, World.size_drew, World.heap_drewN] at *); omega))) _) | (with_reducible refine Below.setCell ?_ (by (try simp only [World.size_alloc, World.size_setCell, World.size_drew, World.heap_drewN]); (first | done | omega | ((try simp only [World.size_alloc, World.size_setCell, World.size_drew, World.heap_drewN] at *); omega))) _) | (with_reducible refine Below.trans ?_ (Below.mono (by assumption) (by (try simp only [World.size_alloc, World.size_setCell, World.size_drew, World.heap_drewN]); (first | done | omega | ((try simp only [World.size_alloc, World.size_setCell, World.size_drew, World.heap_drewN] at *); omega)))))))) (by simp [maxLen]; omega) (by simp; omega) (by simp) ?_; intro v2 w2 hr2 hg2 hat2)
  go_ret
  exact ⟨_, rfl, by simpa using hr2, ((Below.refl _ _).alloc (Nat.le_refl _) _).grown hg2 (by simp) (by simp [Value.ownBlock])⟩


def Nd.val (n : Nd) : Value := .agg #[.int .i64 n.op, .int .i64 n.d, .int .i64 n.a, .int .i64 n.b, .int .i64 n.t, .int .i64 n.e]
theorem run_eq_node (x y : Nd) (w : World) : (Op.equalIn 10000 55 x.val y.val).run Tryd.prog w = .ok (x == y) w := by
  have u3 := Tryd.underlying3
  have a3 : ∀ w, (isAgg 3).run Tryd.prog w = .ok false w := fun w => by kernel_rfl
  have z3 : ∀ w, (sizeOf 3).run Tryd.prog w = .ok 1 w := fun w => by kernel_rfl
  have hS : Tryd.prog.underlying 55 = some (.struct (Tryd.prog.fieldsOf 55)) := by kernel_rfl
  have hp : Tryd.prog.stoodInHeld 55 = false := by kernel_rfl
  obtain ⟨x0, x1, x2, x3, x4, x5⟩ := x
  obtain ⟨y0, y1, y2, y3, y4, y5⟩ := y
  simp only [Nd.val]
  rw [show (10000 : Nat) = 9999 + 1 from rfl, run_equalIn_agg w 9999 55 _ _ hS hp]
  simp only [Program.fieldsOf, Tryd.underlying55]
  go_simp
  have hb : ((⟨x0, x1, x2, x3, x4, x5⟩ : Nd) == ⟨y0, y1, y2, y3, y4, y5⟩) = (x0 == y0 && (x1 == y1 && (x2 == y2 && (x3 == y3 && (x4 == y4 && x5 == y5))))) := by
    rw [Bool.eq_iff_iff]
    simp
  rw [hb]
  by_cases h0 : x0 = y0 <;> by_cases h1 : x1 = y1 <;> by_cases h2 : x2 = y2 <;> by_cases h3 : x3 = y3 <;> by_cases h4 : x4 = y4 <;> by_cases h5 : x5 = y5 <;> simp [h0, h1, h2, h3, h4, h5]
theorem guardNode : Tryd.prog.eqGuardType Tryd.prog.depth 55 = false := by kernel_rfl

theorem SameProgs_any (r1 r2 : Int) (A B : Option Addr) (l m : List Nd) (ac bc : Nat) (w : World) (hA : NodesAt w A l) (hB : NodesAt w B m) (hl : l.length ≤ maxLen) (hm : m.length ≤ maxLen) :
    Calls Tryd.prog 11 #[.agg #[.int .i64 r1, .slice A l.length ac], .agg #[.int .i64 r2, .slice B m.length bc]] w fun e w' => e = .returned (.bool (r1 == r2 && l == m)) ∧ Below w.heap.size w w' := by
  unfold maxLen at hl hm
  by_cases hr : r1 = r2
  · have h0 : (r1 != r2) = false := by simp [hr]
    by_cases hll : l.length = m.length
    · have Hl := hide hll
      have Hr := hide hr
      have h1 : ((l.length : Int) != (m.length : Int)) = false := by simp [hll]
      clear hll hr
      go_enter Tryd.func11, Tryd.ntmps11
      go_wp2_with fail
      go_loopg [5] (l.length) (fun gk i wr => ∃ k : Nat, k ≤ l.length ∧ i = .int .i64 k ∧ gk = l.length - k ∧ (∀ j, j < k → l[j]? = m[j]?) ∧ Blk wr w.heap.size 24 #[.int .i64 r1, .slice A l.length ac] ∧ Blk wr (w.heap.size + 1) 24 #[.int .i64 r2, .slice B m.length bc] ∧ Below w.heap.size w wr)
      case atStart => exact ⟨0, Nat.zero_le _, rfl, by omega, fun j hj => by omega, (by repeat (first | ((with_reducible refine Blk.new' ?_); exact (by (try simp only [World.size_alloc, World.size_setCell, World.size_drew, World.heap_drewN]); (first | done | omega | ((try simp only [World.size_alloc, World.size_setCell, World.size_drew, World.heap_drewN] at *); omega)))) | (with_reducible refine Blk.drew ?_) | (with_reducible refine Blk.drewN ?_ _) | (with_reducible refine Blk.alloc ?_ _) | with_reducible assumption)), (by repeat (first | ((with_reducible refine Blk.new' ?_); exact (by (try simp only [World.size_alloc, World.size_setCell, World.size_drew, World.heap_drewN]); (first | done | omega | ((try simp only [World.size_alloc, World.size_setCell, World.size_drew, World.heap_drewN] at *); omega)))) | (with_reducible refine Blk.drew ?_) | (with_reducible refine Blk.drewN ?_ _) | (with_reducible refine Blk.alloc ?_ _) | with_reducible assumption)), (by repeat (first | (with_reducible exact Below.refl _ _) | (with_reducible assumption) | (with_reducible refine Below.drew ?_) | (with_reducible refine below_drewN ?_ _) | (with_reducible refine Below.alloc ?_ (by (try simp only [World.size_alloc, World.size_setCell, World.size_drew, World.heap_drewN]); (first | done | omega | ((try simp only [World.size_alloc, World.size_setCell, World.size_drew, World.heap_drewN] at *); omega))) _) | (with_reducible refine Below.setCell ?_ (by (try simp only [World.size_alloc, World.size_setCell, World.size_drew, World.heap_drewN]); (first | done | omega | ((try simp only [World.size_alloc, World.size_setCell, World.size_drew, World.heap_drewN] at *); omega))) _) | (with_reducible refine Below.trans ?_ (Below.mono (by assumption) (by (try simp only [World.size_alloc, World.size_setCell, World.size_drew, World.heap_drewN]); (first | done | omega | ((try simp only [World.size_alloc, World.size_setCell, World.size_drew, World.heap_drewN] at *); omega)))))))⟩
      case round =>
        obtain ⟨k, hk, rfl, hgk, hno, hP, hQ, hBl⟩ := hrel
        have Hgk := hide hgk
        have Hno := hide hno
        clear hgk hno
        have hz := hBl.size
        have p0 := hP.cell 0
        have p1 := hP.cell 1
        have q0 := hQ.cell 0
        have q1 := hQ.cell 1
        simp only [List.getElem?_toArray, List.getElem?_cons_zero, List.getElem?_cons_succ] at p0 p1 q0 q1
        by_cases hlt : k < l.length
        · have hlt2 : k < m.length := by rw [← Hl.out]; exact hlt
          obtain ⟨ab, ao, x, rfl, hab, hx, hxl⟩ := (hA.below hBl).get hlt
          obtain ⟨bb, bo, y, rfl, hbb, hy, hyl⟩ := (hB.below hBl).get hlt2
          have Hx := hide hx
          have Hy := hide hy
          have k0 : (0 : Int) ≤ (k : Int) := by omega
          have k1 : (k : Int) < (l.length : Int) := by omega
          have k2 : (k : Int) < (m.length : Int) := by omega
          obtain ⟨c0, c1, c2, c3, c4, c5⟩ := hxl
          obtain ⟨d0, d1, d2, d3, d4, d5⟩ := hyl
          have HP := hide hP
          have HQ := hide hQ
          have hgd := guardNode
          have hEq := fun W => run_eq_node x y W
          unfold Nd.val at hEq
          cases hq : (x == y)
          case false =>
            rw [hq] at hEq
            have Hq := hq
            have hf : (l == m) = false := by
              rw [beq_eq_false_iff_ne]
              rintro rfl
              have := Hx.out.symm.trans Hy.out
              injection this with this
              subst this
              simp at Hq
            have HQ1 := hide hq
            have HP' := hide hP
            have HQ' := hide hQ
            have Hf := hide hf
            clear hA hB hx hy hP hQ hq Hq hf
            go_wp2_with fail
            go_quiet (fail)
            go_wp2_with fail
            go_ret
            exact ⟨by rw [Hf.out]; simp, (by repeat (first | (with_reducible exact Below.refl _ _) | (with_reducible assumption) | (with_reducible refine Below.drew ?_) | (with_reducible refine below_drewN ?_ _) | (with_reducible refine Below.alloc ?_ (by (try simp only [World.size_alloc, World.size_setCell, World.size_drew, World.heap_drewN]); (first | done | omega | ((try simp only [World.size_alloc, World.size_setCell, World.size_drew, World.heap_drewN] at *); omega))) _) | (with_reducible refine Below.setCell ?_ (by (try simp only [World.size_alloc, World.size_setCell, World.size_drew, World.heap_drewN]); (first | done | omega | ((try simp only [World.size_alloc, World.size_setCell, World.size_drew, World.heap_drewN] at *); omega))) _) | (with_reducible refine Below.trans ?_ (Below.mono (by assumption) (by (try simp only [World.size_alloc, World.size_setCell, World.size_drew, World.heap_drewN]); (first | done | omega | ((try simp only [World.size_alloc, World.size_setCell, World.size_drew, World.heap_drewN] at *); omega)))))))⟩
          case true =>
            rw [hq] at hEq
            clear hA hB hx hy hP hQ
            have Hq := hide hq
            clear hq
            go_wp2_with fail
            go_quiet (fail)
            go_wp2_with fail
            go_roundg (l.length - (k + 1))
            case measure => have := Hgk.out; omega
            case rel =>
              refine ⟨k + 1, by omega, by go_num, rfl, fun j hj => ?_, HP.out.drewN _, HQ.out.drewN _, (by repeat (first | (with_reducible exact Below.refl _ _) | (with_reducible assumption) | (with_reducible refine Below.drew ?_) | (with_reducible refine below_drewN ?_ _) | (with_reducible refine Below.alloc ?_ (by (try simp only [World.size_alloc, World.size_setCell, World.size_drew, World.heap_drewN]); (first | done | omega | ((try simp only [World.size_alloc, World.size_setCell, World.size_drew, World.heap_drewN] at *); omega))) _) | (with_reducible refine Below.setCell ?_ (by (try simp only [World.size_alloc, World.size_setCell, World.size_drew, World.heap_drewN]); (first | done | omega | ((try simp only [World.size_alloc, World.size_setCell, World.size_drew, World.heap_drewN] at *); omega))) _) | (with_reducible refine Below.trans ?_ (Below.mono (by assumption) (by (try simp only [World.size_alloc, World.size_setCell, World.size_drew, World.heap_drewN]); (first | done | omega | ((try simp only [World.size_alloc, World.size_setCell, World.size_drew, World.heap_drewN] at *); omega)))))))⟩
              by_cases hjk : j = k
              · subst hjk
                rw [Hx.out, Hy.out]
                have := Hq.out
                rw [beq_iff_eq] at this
                rw [this]
              · exact Hno.out j (by omega)
        · have hf : (l == m) = true := by
            rw [beq_iff_eq]
            exact ext_get Hl.out fun i hi => Hno.out i (by omega)
          have hf2 : (r1 == r2) = true := by rw [beq_iff_eq]; exact Hr.out
          have Hf := hide hf
          have Hf2 := hide hf2
          clear hf hf2 hP hQ hA hB
          go_wp2_with fail
          go_ret
          exact ⟨by rw [Hf.out, Hf2.out]; rfl, hBl⟩
    · have hf : (l == m) = false := by
        rw [beq_eq_false_iff_ne]
        intro e
        exact hll (by rw [e])
      rw [hf]
      have h1 : ((l.length : Int) != (m.length : Int)) = true := by simp; omega
      clear hf hll hr
      go_enter Tryd.func11, Tryd.ntmps11
      go_wp2_with fail
      go_ret
      exact ⟨by simp, (by repeat (first | (with_reducible exact Below.refl _ _) | (with_reducible assumption) | (with_reducible refine Below.drew ?_) | (with_reducible refine below_drewN ?_ _) | (with_reducible refine Below.alloc ?_ (by (try simp only [World.size_alloc, World.size_setCell, World.size_drew, World.heap_drewN]); (first | done | omega | ((try simp only [World.size_alloc, World.size_setCell, World.size_drew, World.heap_drewN] at *); omega))) _) | (with_reducible refine Below.setCell ?_ (by (try simp only [World.size_alloc, World.size_setCell, World.size_drew, World.heap_drewN]); (first | done | omega | ((try simp only [World.size_alloc, World.size_setCell, World.size_drew, World.heap_drewN] at *); omega))) _) | (with_reducible refine Below.trans ?_ (Below.mono (by assumption) (by (try simp only [World.size_alloc, World.size_setCell, World.size_drew, World.heap_drewN]); (first | done | omega | ((try simp only [World.size_alloc, World.size_setCell, World.size_drew, World.heap_drewN] at *); omega)))))))⟩
  · have h0 : (r1 != r2) = true := by simp [hr]
    have hf : (r1 == r2) = false := by simp [hr]
    rw [hf]
    clear hf hr
    go_enter Tryd.func11, Tryd.ntmps11
    go_wp2_with fail
    go_ret
    exact ⟨by simp, (by repeat (first | (with_reducible exact Below.refl _ _) | (with_reducible assumption) | (with_reducible refine Below.drew ?_) | (with_reducible refine below_drewN ?_ _) | (with_reducible refine Below.alloc ?_ (by (try simp only [World.size_alloc, World.size_setCell, World.size_drew, World.heap_drewN]); (first | done | omega | ((try simp only [World.size_alloc, World.size_setCell, World.size_drew, World.heap_drewN] at *); omega))) _) | (with_reducible refine Below.setCell ?_ (by (try simp only [World.size_alloc, World.size_setCell, World.size_drew, World.heap_drewN]); (first | done | omega | ((try simp only [World.size_alloc, World.size_setCell, World.size_drew, World.heap_drewN] at *); omega))) _) | (with_reducible refine Below.trans ?_ (Below.mono (by assumption) (by (try simp only [World.size_alloc, World.size_setCell, World.size_drew, World.heap_drewN]); (first | done | omega | ((try simp only [World.size_alloc, World.size_setCell, World.size_drew, World.heap_drewN] at *); omega)))))))⟩
end Go.Proofs.YtmghkonmfbpjcabDoor
