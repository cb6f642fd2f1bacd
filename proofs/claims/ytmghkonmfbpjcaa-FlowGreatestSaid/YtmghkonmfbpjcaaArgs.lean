/- A program, a flow and a slice of yes and no, as this program's types lay them: each argument that reads, written out. -/
import Derived.Test.YtmghkonmfbpjcaaLift
import Derived.Test.YtmghkonmfbpjcaaChecked
namespace Go.Proofs.Ytmghkonmfbpjcaa
set_option linter.unusedVariables false
set_option linter.unusedSimpArgs false
open Go.RowKit Go.ChangeShapes Go.WideShapes Go.Deep

section
variable {H : Type} {enc : TypeId × Value → H} {w : World} {base : Nat} {spare : Nat → Bool} {held : Bool} {r : Reach} {b0 : Nat} {v : Value} {d : DataW H} {p : List MemPlace}

set_option maxRecDepth 100000 in
theorem prog_in (hv : Value.okWide Try.prog w r b0 24 v) (h : DataW.Trod enc Try.prog w base spare held 24 v d p) :
    ∃ (regs : Int) (A : Option Addr) (l : List Nd) (cap : Nat), v = .agg #[.int .i64 regs, .slice A l.length cap] ∧ l.length ≤ maxLen ∧ NodesAt w A l := by
  obtain ⟨cs, rfl, hsz, n, hf⟩ := agg_reads Try.underlying24 (by kernel_rfl) (by kernel_rfl) hv h
  obtain ⟨c0, c1, rfl⟩ := arr2 hsz
  obtain ⟨_, y0, e0, h0⟩ := hf 0 _ rfl
  obtain ⟨_, y1, e1, h1⟩ := hf 1 _ rfl
  simp at e0 e1
  subst e0; subst e1
  obtain ⟨z, hz, _⟩ := DataW.trod_int Try.underlying3 h0
  obtain ⟨A, c, l, hl, hm, hA⟩ := open_nodes Try.underlying22 Try.underlying91 (by kernel_rfl) (by kernel_rfl) (by simp [Try.underlying3]) h1
  simp at hz hl
  subst hz; subst hl
  exact ⟨z, A, l, c, rfl, hm, hA⟩

set_option maxRecDepth 100000 in
theorem yesno_in (hv : Value.okWide Try.prog w r b0 25 v) (h : DataW.Trod enc Try.prog w base spare held 25 v d p) :
    ∃ (S : Option Addr) (n c : Nat) (bs : List Bool), v = .slice S n c ∧ bs.length = n ∧ n ≤ maxLen ∧ ValsAt w S (bools bs) := by
  obtain ⟨a, len, cap, rfl⟩ := okWide_slice Try.underlying25 hv
  obtain ⟨fuel, hf⟩ := h
  obtain ⟨S, n, c, bs, e, hx⟩ := open_bools Try.underlying25 Try.underlying4 (by kernel_rfl) hf
  simp [Value.cells] at e
  obtain ⟨rfl, rfl, rfl⟩ := e
  exact ⟨_, _, _, bs, rfl, hx⟩

set_option maxRecDepth 100000 in
theorem flow_in (hv : Value.okWide Try.prog w r b0 27 v) (h : DataW.Trod enc Try.prog w base spare held 27 v d p) :
    ∃ (bk em : Bool) (G P Q T : Option Addr) (g p q t gc pc qc tc : Nat) (gen pass plus lt : List Bool),
      v = .agg #[.bool bk, .bool em, .slice G g gc, .slice P p pc, .slice Q q qc, .slice T t tc] ∧
      (gen.length = g ∧ g ≤ maxLen ∧ ValsAt w G (bools gen)) ∧ (pass.length = p ∧ p ≤ maxLen ∧ ValsAt w P (bools pass)) ∧
      (plus.length = q ∧ q ≤ maxLen ∧ ValsAt w Q (bools plus)) ∧ (lt.length = t ∧ t ≤ maxLen ∧ ValsAt w T (bools lt)) := by
  obtain ⟨cs, rfl, hsz, n, hf⟩ := agg_reads Try.underlying27 (by kernel_rfl) (by kernel_rfl) hv h
  obtain ⟨c0, c1, c2, c3, c4, c5, rfl⟩ := arr6 hsz
  obtain ⟨_, y0, e0, h0⟩ := hf 0 _ rfl
  obtain ⟨_, y1, e1, h1⟩ := hf 1 _ rfl
  obtain ⟨_, y2, e2, h2⟩ := hf 2 _ rfl
  obtain ⟨_, y3, e3, h3⟩ := hf 3 _ rfl
  obtain ⟨_, y4, e4, h4⟩ := hf 4 _ rfl
  obtain ⟨_, y5, e5, h5⟩ := hf 5 _ rfl
  simp at e0 e1 e2 e3 e4 e5
  subst e0; subst e1; subst e2; subst e3; subst e4; subst e5
  obtain ⟨bk, k0, _⟩ := DataW.trod_bool Try.underlying4 h0
  obtain ⟨em, k1, _⟩ := DataW.trod_bool Try.underlying4 h1
  obtain ⟨G, g, gc, gen, k2, x2⟩ := open_bools Try.underlying25 Try.underlying4 (by kernel_rfl) h2
  obtain ⟨P, p, pc, pass, k3, x3⟩ := open_bools Try.underlying25 Try.underlying4 (by kernel_rfl) h3
  obtain ⟨Q, q, qc, plus, k4, x4⟩ := open_bools Try.underlying25 Try.underlying4 (by kernel_rfl) h4
  obtain ⟨T, t, tc, lt, k5, x5⟩ := open_bools Try.underlying25 Try.underlying4 (by kernel_rfl) h5
  simp at k0 k1 k2 k3 k4 k5
  subst k0; subst k1; subst k2; subst k3; subst k4; subst k5
  exact ⟨bk, em, G, P, Q, T, g, p, q, t, gc, pc, qc, tc, gen, pass, plus, lt, rfl, x2, x3, x4, x5⟩
end
end Go.Proofs.Ytmghkonmfbpjcaa
