/- The reference's SameBools. -/
import Derived.Test.YtmghkonmfbpjcaaTab
import Derived.Test.YtmghkonmfbpjcaaYes
import Derived.Test.YtmghkonmfbpjcaaOps
import Derived.Deep.LoopGhost
import Derived.Deep.RegionHeld3
import Derived.Deep.QuietTactic
import Derived.BigQuiet
namespace Go.Proofs.Ytmghkonmfbpjcaa
set_option linter.unusedVariables false
set_option linter.unusedSimpArgs false
open Go.RowKit
set_option maxHeartbeats 2000000

theorem SameBools_any (X Y : Option Addr) (xc yc : Nat) (x y : List Bool) (w : World) (hX : ValsAt w X (bools x)) (hY : ValsAt w Y (bools y)) (hx : x.length ≤ maxLen) (hy : y.length ≤ maxLen) :
    Calls Try.prog 18 #[.slice X x.length xc, .slice Y y.length yc] w fun e w' => e = .returned (.bool (x == y)) ∧ ∃ d, w' = w.drewN d := by
  unfold maxLen at hx hy
  by_cases hl : x.length = y.length
  · have Hl := hide hl
    have h1 : ((x.length : Int) != (y.length : Int)) = false := by simp [hl]
    clear hl
    have hY' : ValsAt w Y (bools y) := hY
    go_enter Try.func18, Try.ntmps18
    go_wp2_with fail
    go_loopg [5] (x.length) (fun gk i wr => ∃ k : Nat, k ≤ x.length ∧ i = .int .i64 k ∧ gk = x.length - k ∧ (∀ j, j < k → yn x j = yn y j) ∧ ∃ d, wr = w.drewN d)
    case atStart => exact ⟨0, Nat.zero_le _, rfl, by omega, fun j hj => by omega, 0, rfl⟩
    case round =>
      obtain ⟨k, hk, rfl, hgk, hno, d, rfl⟩ := hrel
      have Hgk := hide hgk
      have Hno := hide hno
      clear hgk hno
      by_cases hlt : k < x.length
      · have hlt2 : k < y.length := by rw [← Hl.out]; exact hlt
        obtain ⟨xb, xo, rfl, hxb, cx⟩ := hX.bool hlt
        obtain ⟨yb, yo, rfl, hyb, cy⟩ := hY.bool hlt2
        have k0 : (0 : Int) ≤ (k : Int) := by omega
        have k1 : (k : Int) < (x.length : Int) := by omega
        have k2 : (k : Int) < (y.length : Int) := by omega
        clear hX hY hY'
        cases hq : (!(yn x k == yn y k))
        case true =>
          have hf : (x == y) = false := by
            rw [beq_eq_false_iff_ne]
            rintro rfl
            simp at hq
          have Hf := hide hf
          clear hf
          go_wp2_with fail
          go_quiet (fail)
          go_wp2_with fail
          go_ret
          exact ⟨by rw [Hf.out]; rfl, d + nq, by simp⟩
        case false =>
          have Hq := hide hq
          go_wp2_with fail
          go_quiet (fail)
          go_wp2_with fail
          go_roundg (x.length - (k + 1))
          case measure => have := Hgk.out; omega
          case rel =>
            refine ⟨k + 1, by omega, by go_num, rfl, fun j hj => ?_, d + nq, by simp⟩
            by_cases hjk : j = k
            · subst hjk
              simpa using Hq.out
            · exact Hno.out j (by omega)
      · have hf : (x == y) = true := by
          rw [beq_iff_eq]
          exact ext_yn Hl.out fun i hi => Hno.out i (by omega)
        have Hf := hide hf
        clear hf
        go_wp2_with fail
        go_ret
        exact ⟨by rw [Hf.out]; rfl, _, rfl⟩
  · have hf : (x == y) = false := by
      rw [beq_eq_false_iff_ne]
      intro e
      exact hl (by rw [e])
    rw [hf]
    have h1 : ((x.length : Int) != (y.length : Int)) = true := by simp; omega
    clear hf hl
    go_enter Try.func18, Try.ntmps18
    go_wp2_with fail
    go_ret
    exact ⟨rfl, 0, rfl⟩
end Go.Proofs.Ytmghkonmfbpjcaa
