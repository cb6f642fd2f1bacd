/- Counts of terms: whether two lists of them are the same; how often a term stands there. -/
import Derived.Test.YtmghkonmfbpjcaaDoorJF
import Derived.Test.YtmghkonmfbpjcaaDoorSame
import Derived.Test.YtmghkonmfbpjcaaDoorCRow
namespace Go.Proofs.YtmghkonmfbpjcaaDoor
set_option linter.unusedVariables false
set_option linter.unusedSimpArgs false
open Go.RowKit
set_option maxHeartbeats 4000000
attribute [local irreducible] Row CRow madeCells

abbrev Ct.val (n : Ct) : Value := .agg #[.int .i64 n.1.op, .int .i64 n.1.a, .int .i64 n.1.b, .int .i64 n.2]
theorem run_eq_count (x y : Ct) (w : World) : (Op.equalIn 10000 73 (Ct.val x) (Ct.val y)).run Tryd.prog w = .ok (x == y) w := by
  have u3 := Tryd.underlying3
  have a3 : ∀ w, (isAgg 3).run Tryd.prog w = .ok false w := fun w => by kernel_rfl
  have z3 : ∀ w, (sizeOf 3).run Tryd.prog w = .ok 1 w := fun w => by kernel_rfl
  have at3 : ∀ w, (isAgg 71).run Tryd.prog w = .ok true w := fun w => by kernel_rfl
  have zt3 : ∀ w, (sizeOf 71).run Tryd.prog w = .ok 3 w := fun w => by kernel_rfl
  have hS : Tryd.prog.underlying 73 = some (.struct (Tryd.prog.fieldsOf 73)) := by kernel_rfl
  have hp : Tryd.prog.stoodInHeld 73 = false := by kernel_rfl
  have hS2 : Tryd.prog.underlying 71 = some (.struct (Tryd.prog.fieldsOf 71)) := by kernel_rfl
  have hp2 : Tryd.prog.stoodInHeld 71 = false := by kernel_rfl
  obtain ⟨⟨x0, x1, x2⟩, x3⟩ := x
  obtain ⟨⟨y0, y1, y2⟩, y3⟩ := y
  simp only [Ct.val]
  have hT : ∀ d w, (Op.equalIn (d + 2) 71 (.agg #[.int .i64 x0, .int .i64 x1, .int .i64 x2]) (.agg #[.int .i64 y0, .int .i64 y1, .int .i64 y2])).run Tryd.prog w = .ok (x0 == y0 && (x1 == y1 && x2 == y2)) w := fun d w => by
    rw [run_equalIn_agg w (d + 1) 71 _ _ hS2 hp2]
    simp only [Program.fieldsOf, Tryd.underlying71]
    go_simp
    by_cases h0 : x0 = y0 <;> by_cases h1 : x1 = y1 <;> by_cases h2 : x2 = y2 <;> simp [h0, h1, h2]
  have hC : ∀ d w, (Op.equalIn (d + 3) 73 (.agg #[.int .i64 x0, .int .i64 x1, .int .i64 x2, .int .i64 x3]) (.agg #[.int .i64 y0, .int .i64 y1, .int .i64 y2, .int .i64 y3])).run Tryd.prog w = .ok ((x0 == y0 && (x1 == y1 && x2 == y2)) && x3 == y3) w := fun d w => by
    rw [run_equalIn_agg w (d + 2) 73 _ _ hS hp]
    simp only [Program.fieldsOf, Tryd.underlying73]
    go_simp
    have hT := hT d
    by_cases h0 : x0 = y0 <;> by_cases h1 : x1 = y1 <;> by_cases h2 : x2 = y2 <;> by_cases h3 : x3 = y3 <;> simp [h0, h1, h2, h3, hT]
  have hb : (((⟨x0, x1, x2⟩, x3) : Ct) == (⟨y0, y1, y2⟩, y3)) = ((x0 == y0 && (x1 == y1 && x2 == y2)) && x3 == y3) := by
    rw [Bool.eq_iff_iff]
    simp [and_assoc]
  rw [hb]
  exact hC 9997 w
theorem guardCount : Tryd.prog.eqGuardType Tryd.prog.depth 73 = false := by kernel_rfl

theorem cntOf_at : ∀ {cs : List Ct} {k : Nat} {x : Ct} {t : Tm}, cs[k]? = some x → x.1 = t → (∀ j y, j < k → cs[j]? = some y → y.1 ≠ t) → cntOf cs t = x.2
  | [], k, x, t, h, _, _ => by simp at h
  | (u, n) :: cs, 0, x, t, h, ht, _ => by
    simp at h
    subst h
    rw [cntOf_cons, if_pos ht]
  | (u, n) :: cs, k + 1, x, t, h, ht, hno => by
    rw [cntOf_cons, if_neg (hno 0 (u, n) (by omega) rfl)]
    exact cntOf_at (by simpa using h) ht fun j y hj hy => hno (j + 1) y (by omega) (by simpa using hy)
theorem cntOf_no {cs : List Ct} {t : Tm} (h : ∀ j y, j < cs.length → cs[j]? = some y → y.1 ≠ t) : cntOf cs t = 0 :=
  cntOf_none fun x hx => by
    obtain ⟨j, hj, e⟩ := List.getElem_of_mem hx
    exact h j x hj (by rw [List.getElem?_eq_getElem hj, e])

theorem SameCounts_any (X Y : Option Addr) (xc yc : Nat) (l m : List Ct) (w : World) (hA : CtsAt w X l) (hB : CtsAt w Y m) (hl : l.length ≤ maxLen) (hm : m.length ≤ maxLen) :
    Calls Tryd.prog 17 #[.slice X l.length xc, .slice Y m.length yc] w fun e w' => e = .returned (.bool (l == m)) ∧ ∃ d, w' = w.drewN d := by
  unfold maxLen at hl hm
  by_cases hll : l.length = m.length
  · have Hl := hide hll
    have h1 : ((l.length : Int) != (m.length : Int)) = false := by simp [hll]
    clear hll
    go_enter Tryd.func17, Tryd.ntmps17
    go_wp2_with fail
    go_loopg [5] (l.length) (fun gk i wr => ∃ k : Nat, k ≤ l.length ∧ i = .int .i64 k ∧ gk = l.length - k ∧ (∀ j, j < k → l[j]? = m[j]?) ∧ ∃ d, wr = w.drewN d)
    case atStart => exact ⟨0, Nat.zero_le _, rfl, by omega, fun j hj => by omega, 0, rfl⟩
    case round =>
      obtain ⟨k, hk, rfl, hgk, hno, d, rfl⟩ := hrel
      have Hgk := hide hgk
      have Hno := hide hno
      clear hgk hno
      by_cases hlt : k < l.length
      · have hlt2 : k < m.length := by rw [← Hl.out]; exact hlt
        obtain ⟨ab, ao, x, rfl, hab, hx, hxl⟩ := hA.get hlt
        obtain ⟨bb, bo, y, rfl, hbb, hy, hyl⟩ := hB.get hlt2
        have Hx := hide hx
        have Hy := hide hy
        have k0 : (0 : Int) ≤ (k : Int) := by omega
        have k1 : (k : Int) < (l.length : Int) := by omega
        have k2 : (k : Int) < (m.length : Int) := by omega
        obtain ⟨c0, c1, c2, c3⟩ := hxl
        obtain ⟨d0, d1, d2, d3⟩ := hyl
        have hgd := guardCount
        have hEq := fun W => run_eq_count x y W
        unfold Ct.val at hEq
        cases hq : (x == y)
        case false =>
          rw [hq] at hEq
          have hf : (l == m) = false := by
            rw [beq_eq_false_iff_ne]
            rintro rfl
            have := Hx.out.symm.trans Hy.out
            injection this with this
            subst this
            simp at hq
          have Hf := hide hf
          clear hA hB hx hy hq hf
          go_wp2_with fail
          go_quiet (fail)
          go_wp2_with fail
          go_ret
          exact ⟨by rw [Hf.out]; rfl, d + nq, by simp⟩
        case true =>
          rw [hq] at hEq
          clear hA hB hx hy
          have Hq := hide hq
          clear hq
          go_wp2_with fail
          go_quiet (fail)
          go_wp2_with fail
          go_roundg (l.length - (k + 1))
          case measure => have := Hgk.out; omega
          case rel =>
            refine ⟨k + 1, by omega, by go_num, rfl, fun j hj => ?_, d + nq, by simp⟩
            by_cases hjk : j = k
            · subst hjk
              rw [Hx.out, Hy.out]
              have := Hq.out
              rw [beq_iff_eq] at this
              rw [this]
            · exact Hno.out j (by omega)
      · have hf : (l == m) = true := by
          rw [beq_iff_eq]
          exact ext_get Hl.out fun i hi => Hno.out i (by omega)
        have Hf := hide hf
        clear hf hA hB
        go_wp2_with fail
        go_ret
        exact ⟨by rw [Hf.out]; rfl, _, rfl⟩
  · have hf : (l == m) = false := by
      rw [beq_eq_false_iff_ne]
      intro e
      exact hll (by rw [e])
    rw [hf]
    have h1 : ((l.length : Int) != (m.length : Int)) = true := by simp; omega
    clear hf hll
    go_enter Tryd.func17, Tryd.ntmps17
    go_wp2_with fail
    go_ret
    exact ⟨rfl, 0, rfl⟩

end Go.Proofs.YtmghkonmfbpjcaaDoor
