/- Counts of terms: whether two lists of them are the same; how often a term stands there. -/
import Derived.Test.YtmghkonmfbpjcabJD
import Derived.Test.YtmghkonmfbpjcabSame
import Derived.Test.YtmghkonmfbpjcabCRow
namespace Go.Proofs.Ytmghkonmfbpjcab
set_option linter.unusedVariables false
set_option linter.unusedSimpArgs false
open Go.RowKit
set_option maxHeartbeats 4000000
attribute [local irreducible] Row CRow madeCells

abbrev Ct.val (n : Ct) : Value := .agg #[.int .i64 n.1.op, .int .i64 n.1.a, .int .i64 n.1.b, .int .i64 n.2]
theorem run_eq_count (x y : Ct) (w : World) : (Op.equalIn 10000 75 (Ct.val x) (Ct.val y)).run Try.prog w = .ok (x == y) w := by
  have u3 := Try.underlying3
  have a3 : ∀ w, (isAgg 3).run Try.prog w = .ok false w := fun w => by kernel_rfl
  have z3 : ∀ w, (sizeOf 3).run Try.prog w = .ok 1 w := fun w => by kernel_rfl
  have at3 : ∀ w, (isAgg 42).run Try.prog w = .ok true w := fun w => by kernel_rfl
  have zt3 : ∀ w, (sizeOf 42).run Try.prog w = .ok 3 w := fun w => by kernel_rfl
  have hS : Try.prog.underlying 75 = some (.struct (Try.prog.fieldsOf 75)) := by kernel_rfl
  have hp : Try.prog.stoodInHeld 75 = false := by kernel_rfl
  have hS2 : Try.prog.underlying 42 = some (.struct (Try.prog.fieldsOf 42)) := by kernel_rfl
  have hp2 : Try.prog.stoodInHeld 42 = false := by kernel_rfl
  obtain ⟨⟨x0, x1, x2⟩, x3⟩ := x
  obtain ⟨⟨y0, y1, y2⟩, y3⟩ := y
  simp only [Ct.val]
  have hT : ∀ d w, (Op.equalIn (d + 2) 42 (.agg #[.int .i64 x0, .int .i64 x1, .int .i64 x2]) (.agg #[.int .i64 y0, .int .i64 y1, .int .i64 y2])).run Try.prog w = .ok (x0 == y0 && (x1 == y1 && x2 == y2)) w := fun d w => by
    rw [run_equalIn_agg w (d + 1) 42 _ _ hS2 hp2]
    simp only [Program.fieldsOf, Try.underlying42]
    go_simp
    by_cases h0 : x0 = y0 <;> by_cases h1 : x1 = y1 <;> by_cases h2 : x2 = y2 <;> simp [h0, h1, h2]
  have hC : ∀ d w, (Op.equalIn (d + 3) 75 (.agg #[.int .i64 x0, .int .i64 x1, .int .i64 x2, .int .i64 x3]) (.agg #[.int .i64 y0, .int .i64 y1, .int .i64 y2, .int .i64 y3])).run Try.prog w = .ok ((x0 == y0 && (x1 == y1 && x2 == y2)) && x3 == y3) w := fun d w => by
    rw [run_equalIn_agg w (d + 2) 75 _ _ hS hp]
    simp only [Program.fieldsOf, Try.underlying75]
    go_simp
    have hT := hT d
    by_cases h0 : x0 = y0 <;> by_cases h1 : x1 = y1 <;> by_cases h2 : x2 = y2 <;> by_cases h3 : x3 = y3 <;> simp [h0, h1, h2, h3, hT]
  have hb : (((⟨x0, x1, x2⟩, x3) : Ct) == (⟨y0, y1, y2⟩, y3)) = ((x0 == y0 && (x1 == y1 && x2 == y2)) && x3 == y3) := by
    rw [Bool.eq_iff_iff]
    simp [and_assoc]
  rw [hb]
  exact hC 9997 w
theorem guardCount : Try.prog.eqGuardType Try.prog.depth 75 = false := by kernel_rfl

theorem cntOf_at : ∀ {cs : List Ct} {k : Nat} {x : Ct} {t : Tm}, cs[k]? = some x → x.1 = t → (∀ j y, j < k → cs[j]? = some y → y.1 ≠ t) → cntOf cs t = x.2
  | [], k, x, t, h, _, _ => by simp at h
  | (u, n) :: cs, 0, x, t, h, ht, _ => by
    simp at h
    subst h
    rw [cntOf_cons, if_pos ht]
  | (u, n) :: cs, k + 1, x, t, h, ht, hno => by
    rw [cntOf_cons, if_neg (hno 0 (u, n) (by omega) rfl)]
    exact cntOf_at (by simpa using h) ht fun j y hj hy => hno (j + 1) y (by omega) (by simpa using hy)
theorem cntOf_no {cs : List Ct} {t : Tm} (h : ∀ j y, j < cs.length → cs[j]? = some y → y.1 ≠ t) : cntOf cs t = 0 :=
  cntOf_none fun x hx => by
    obtain ⟨j, hj, e⟩ := List.getElem_of_mem hx
    exact h j x hj (by rw [List.getElem?_eq_getElem hj, e])

theorem SameCounts_any (X Y : Option Addr) (xc yc : Nat) (l m : List Ct) (w : World) (hA : CtsAt w X l) (hB : CtsAt w Y m) (hl : l.length ≤ maxLen) (hm : m.length ≤ maxLen) :
    Calls Try.prog 36 #[.slice X l.length xc, .slice Y m.length yc] w fun e w' => e = .returned (.bool (l == m)) ∧ ∃ d, w' = w.drewN d := by
  unfold maxLen at hl hm
  by_cases hll : l.length = m.length
  · have Hl := hide hll
    have h1 : ((l.length : Int) != (m.length : Int)) = false := by simp [hll]
    clear hll
    go_enter Try.func36, Try.ntmps36
    go_wp2_with fail
    go_loopg [5] (l.length) (fun gk i wr => ∃ k : Nat, k ≤ l.length ∧ i = .int .i64 k ∧ gk = l.length - k ∧ (∀ j, j < k → l[j]? = m[j]?) ∧ ∃ d, wr = w.drewN d)
    case atStart => exact ⟨0, Nat.zero_le _, rfl, by omega, fun j hj => by omega, 0, rfl⟩
    case round =>
      obtain ⟨k, hk, rfl, hgk, hno, d, rfl⟩ := hrel
      have Hgk := hide hgk
      have Hno := hide hno
      clear hgk hno
      by_cases hlt : k < l.length
      · have hlt2 : k < m.length := by rw [← Hl.out]; exact hlt
        obtain ⟨ab, ao, x, rfl, hab, hx, hxl⟩ := hA.get hlt
        obtain ⟨bb, bo, y, rfl, hbb, hy, hyl⟩ := hB.get hlt2
        have Hx := hide hx
        have Hy := hide hy
        have k0 : (0 : Int) ≤ (k : Int) := by omega
        have k1 : (k : Int) < (l.length : Int) := by omega
        have k2 : (k : Int) < (m.length : Int) := by omega
        obtain ⟨c0, c1, c2, c3⟩ := hxl
        obtain ⟨d0, d1, d2, d3⟩ := hyl
        have hgd := guardCount
        have hEq := fun W => run_eq_count x y W
        unfold Ct.val at hEq
        cases hq : (x == y)
        case false =>
          rw [hq] at hEq
          have hf : (l == m) = false := by
            rw [beq_eq_false_iff_ne]
            rintro rfl
            have := Hx.out.symm.trans Hy.out
            injection this with this
            subst this
            simp at hq
          have Hf := hide hf
          clear hA hB hx hy hq hf
          go_wp2_with fail
          go_quiet (fail)
          go_wp2_with fail
          go_ret
          exact ⟨by rw [Hf.out]; rfl, d + nq, by simp⟩
        case true =>
          rw [hq] at hEq
          clear hA hB hx hy
          have Hq := hide hq
          clear hq
          go_wp2_with fail
          go_quiet (fail)
          go_wp2_with fail
          go_roundg (l.length - (k + 1))
          case measure => have := Hgk.out; omega
          case rel =>
            refine ⟨k + 1, by omega, by go_num, rfl, fun j hj => ?_, d + nq, by simp⟩
            by_cases hjk : j = k
            · subst hjk
              rw [Hx.out, Hy.out]
              have := Hq.out
              rw [beq_iff_eq] at this
              rw [this]
            · exact Hno.out j (by omega)
      · have hf : (l == m) = true := by
          rw [beq_iff_eq]
          exact ext_get Hl.out fun i hi => Hno.out i (by omega)
        have Hf := hide hf
        clear hf hA hB
        go_wp2_with fail
        go_ret
        exact ⟨by rw [Hf.out]; rfl, _, rfl⟩
  · have hf : (l == m) = false := by
      rw [beq_eq_false_iff_ne]
      intro e
      exact hll (by rw [e])
    rw [hf]
    have h1 : ((l.length : Int) != (m.length : Int)) = true := by simp; omega
    clear hf hll
    go_enter Try.func36, Try.ntmps36
    go_wp2_with fail
    go_ret
    exact ⟨rfl, 0, rfl⟩

theorem Times_any (O : Option Addr) (on oc : Nat) (rt : Int) (en : Bool) (st : Int) (C : Option Addr) (cc : Nat) (cs : List Ct) (t : Tm) (w : World) (hC : CtsAt w C cs) (hl : cs.length ≤ maxLen) :
    Calls Try.prog 19 #[.agg #[.slice O on oc, .int .i64 rt, .bool en, .int .i64 st, .slice C cs.length cc], .agg #[.int .i64 t.op, .int .i64 t.a, .int .i64 t.b]] w fun e w' => e = .returned (.int .i64 (cntOf cs t)) ∧ Below w.heap.size w w' := by
  unfold maxLen at hl
  go_enter Try.func19, Try.ntmps19
  go_wp2_with fail
  go_loopg [10] (cs.length) (fun gk i wr => ∃ k : Nat, k ≤ cs.length ∧ i = .int .i64 k ∧ gk = cs.length - k ∧ (∀ j y, j < k → cs[j]? = some y → y.1 ≠ t) ∧ Blk wr (w.heap.size + 1) 42 #[.int .i64 t.op, .int .i64 t.a, .int .i64 t.b] ∧ Below w.heap.size w wr)
  case atStart => exact ⟨0, Nat.zero_le _, rfl, by omega, fun j y hj => by omega, (by repeat (first | ((with_reducible refine Blk.new' ?_); exact (by (try simp only [World.size_alloc, World.size_setCell, World.size_drew, World.heap_drewN]); (first | done | omega | ((try simp only [World.size_alloc, World.size_setCell, World.size_drew, World.heap_drewN] at *); omega)))) | (with_reducible refine Blk.drew ?_) | (with_reducible refine Blk.drewN ?_ _) | (with_reducible refine Blk.alloc ?_ _) | with_reducible assumption)), (by repeat (first | (with_reducible exact Below.refl _ _) | (with_reducible assumption) | (with_reducible refine Below.drew ?_) | (with_reducible refine below_drewN ?_ _) | (with_reducible refine Below.alloc ?_ (by (try simp only [World.size_alloc, World.size_setCell, World.size_drew, World.heap_drewN]); (first | done | omega | ((try simp only [World.size_alloc, World.size_setCell, World.size_drew, World.heap_drewN] at *); omega))) _) | (with_reducible refine Below.setCell ?_ (by (try simp only [World.size_alloc, World.size_setCell, World.size_drew, World.heap_drewN]); (first | done | omega | ((try simp only [World.size_alloc, World.size_setCell, World.size_drew, World.heap_drewN] at *); omega))) _) | (with_reducible refine Below.trans ?_ (Below.mono (by assumption) (by (try simp only [World.size_alloc, World.size_setCell, World.size_drew, World.heap_drewN]); (first | done | omega | ((try simp only [World.size_alloc, World.size_setCell, World.size_drew, World.heap_drewN] at *); omega)))))))⟩
  case round =>
    obtain ⟨k, hk, rfl, hgk, hno, hT, hBl⟩ := hrel
    have Hgk := hide hgk
    have Hno := hide hno
    clear hgk hno
    by_cases hlt : k < cs.length
    · obtain ⟨b, o, x, rfl, hab, hx, hxl⟩ := (hC.below hBl).get hlt
      have Hx := hide hx
      have k0 : (0 : Int) ≤ (k : Int) := by omega
      have k1 : (k : Int) < (cs.length : Int) := by omega
      obtain ⟨c0, c1, c2, c3⟩ := hxl
      have q0 := hT.cell 0
      have q1 := hT.cell 1
      have q2 := hT.cell 2
      have lT := hT.lt
      simp only [List.getElem?_toArray, List.getElem?_cons_zero, List.getElem?_cons_succ] at q0 q1 q2
      have hgd := guardTerm
      have hEq := fun W => run_eq_term x.1 t W
      unfold Tm.val at hEq
      have HT := hide hT
      have HB := hide hBl
      cases hq : (x.1 == t)
      case false =>
        rw [hq] at hEq
        have Hq := hide hq
        clear hC hx hq hT hBl
        go_wp2_with fail
        go_roundg (cs.length - (k + 1))
        case measure => have := Hgk.out; omega
        case rel =>
          have hBl := HB.out
          refine ⟨k + 1, by omega, by go_num, rfl, fun j y hj hy => ?_, HT.out.alloc _, (by repeat (first | (with_reducible exact Below.refl _ _) | (with_reducible assumption) | (with_reducible refine Below.drew ?_) | (with_reducible refine below_drewN ?_ _) | (with_reducible refine Below.alloc ?_ (by (try simp only [World.size_alloc, World.size_setCell, World.size_drew, World.heap_drewN]); (first | done | omega | ((try simp only [World.size_alloc, World.size_setCell, World.size_drew, World.heap_drewN] at *); omega))) _) | (with_reducible refine Below.setCell ?_ (by (try simp only [World.size_alloc, World.size_setCell, World.size_drew, World.heap_drewN]); (first | done | omega | ((try simp only [World.size_alloc, World.size_setCell, World.size_drew, World.heap_drewN] at *); omega))) _) | (with_reducible refine Below.trans ?_ (Below.mono (by assumption) (by (try simp only [World.size_alloc, World.size_setCell, World.size_drew, World.heap_drewN]); (first | done | omega | ((try simp only [World.size_alloc, World.size_setCell, World.size_drew, World.heap_drewN] at *); omega)))))))⟩
          by_cases hjk : j = k
          · subst hjk
            rw [Hx.out] at hy
            injection hy with hy
            subst hy
            simpa using Hq.out
          · exact Hno.out j y (by omega) hy
      case true =>
        rw [hq] at hEq
        have hf : cntOf cs t = x.2 := cntOf_at Hx.out (by simpa using hq) Hno.out
        have Hf := hide hf
        clear hC hx hq hf hT hBl
        go_wp2_with fail
        go_ret
        have hBl := HB.out
        exact ⟨by rw [Hf.out]; rfl, (by repeat (first | (with_reducible exact Below.refl _ _) | (with_reducible assumption) | (with_reducible refine Below.drew ?_) | (with_reducible refine below_drewN ?_ _) | (with_reducible refine Below.alloc ?_ (by (try simp only [World.size_alloc, World.size_setCell, World.size_drew, World.heap_drewN]); (first | done | omega | ((try simp only [World.size_alloc, World.size_setCell, World.size_drew, World.heap_drewN] at *); omega))) _) | (with_reducible refine Below.setCell ?_ (by (try simp only [World.size_alloc, World.size_setCell, World.size_drew, World.heap_drewN]); (first | done | omega | ((try simp only [World.size_alloc, World.size_setCell, World.size_drew, World.heap_drewN] at *); omega))) _) | (with_reducible refine Below.trans ?_ (Below.mono (by assumption) (by (try simp only [World.size_alloc, World.size_setCell, World.size_drew, World.heap_drewN]); (first | done | omega | ((try simp only [World.size_alloc, World.size_setCell, World.size_drew, World.heap_drewN] at *); omega)))))))⟩
    · have hf : cntOf cs t = 0 := cntOf_no fun j y hj hy => Hno.out j y (by omega) hy
      have Hf := hide hf
      clear hf hC
      go_wp2_with fail
      go_ret
      exact ⟨by rw [Hf.out]; rfl, hBl⟩

end Go.Proofs.Ytmghkonmfbpjcab
