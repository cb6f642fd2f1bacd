/- A result whose rows are the call's own. -/
import Derived.Test.YtmghkonmfbpjcaaRunB
namespace Go.Proofs.Ytmghkonmfbpjcaa
set_option linter.unusedVariables false
set_option linter.unusedSimpArgs false
open Go.RowKit
set_option maxHeartbeats 4000000

/-- a result whose rows are the call's own -/
structure ResRow (tI tC : TypeId) (B : Nat) (W : World) (O : Option Addr) (oc : Nat) (C : Option Addr) (cc : Nat) (r : Rs) : Prop where
  out : Row W B tI (.slice O r.out.length oc) (ints r.out)
  cts : CRow W B tC (.slice C r.cts.length cc) r.cts
section
variable {tI tC : TypeId} {B : Nat} {W W' : World} {O : Option Addr} {oc : Nat} {C : Option Addr} {cc : Nat} {r : Rs}
theorem ResAt.rows {v : Value} (h : ResAt tI tC B W v r) : ∃ O oc C cc, v = .agg #[.slice O r.out.length oc, .int .i64 r.ret, .bool r.ended, .int .i64 r.steps, .slice C r.cts.length cc] ∧ ResRow tI tC B W O oc C cc r := by
  obtain ⟨ov, cv, rfl, hO, hC⟩ := h
  obtain ⟨O, oc, hov, h1, h2⟩ := hO.shape
  obtain ⟨C, cc, hcv, h3, h4⟩ := hC.shape
  rw [ints_length] at hov
  subst hov hcv
  exact ⟨O, oc, C, cc, rfl, hO, hC⟩
theorem ResRow.below (h : ResRow tI tC B W O oc C cc r) (hb : Below W.heap.size W W') : ResRow tI tC B W' O oc C cc r := ⟨h.out.below' hb, h.cts.below' hb⟩
theorem ResRow.far (h : ResRow tI tC B W O oc C cc r) {g : Nat} (h1 : (Value.slice O r.out.length oc).ownBlock ≠ some g) (h2 : (Value.slice C r.cts.length cc).ownBlock ≠ some g) (i : Nat) (u : Value) : ResRow tI tC B (W.setCell ⟨g, i, none⟩ u) O oc C cc r :=
  ⟨h.out.far (p := ⟨g, i, none⟩) h1 u, h.cts.far (p := ⟨g, i, none⟩) h2 u⟩
theorem ResRow.ne (h : ResRow tI tC B W O oc C cc r) {g : Nat} (hg : g < B ∨ W.heap.size ≤ g) : (Value.slice O r.out.length oc).ownBlock ≠ some g ∧ (Value.slice C r.cts.length cc).ownBlock ≠ some g :=
  ⟨fun e => by have := h.out.lt _ e; omega, fun e => by have := h.cts.lt _ e; omega⟩
theorem ResRow.lens (h : ResRow tI tC B W O oc C cc r) : r.out.length ≤ maxLen ∧ r.cts.length ≤ maxLen := by
  obtain ⟨_, _, e, h1, h2⟩ := h.out.shape
  obtain ⟨_, _, e', h3, h4⟩ := h.cts.shape
  rw [ints_length] at h1
  exact ⟨by omega, by omega⟩
theorem ResRow.same (h : ResRow tI tC B W O oc C cc r) {O' C' : Option Addr} {oc' cc' B' : Nat} (h' : ResRow tI tC B' W O' oc' C' cc' r) :
    Calls Try.prog 46 #[.agg #[.slice O r.out.length oc, .int .i64 r.ret, .bool r.ended, .int .i64 r.steps, .slice C r.cts.length cc], .agg #[.slice O' r.out.length oc', .int .i64 r.ret, .bool r.ended, .int .i64 r.steps, .slice C' r.cts.length cc']] W fun e w' => e = .returned (.bool true) ∧ Below W.heap.size W w' := by
  obtain ⟨l1, l2⟩ := h.lens
  have hS := SameResults_any r r O O' oc oc' C C' cc cc' W h.out.vals h'.out.vals h.cts.nodes h'.cts.nodes l1 l1 l2 l2
  simpa using hS
end
end Go.Proofs.Ytmghkonmfbpjcaa
