/- A term as this program's types lay it: the argument that reads, written out. -/
import Derived.Test.YtmghkonmfbpjcaaArgP
import Derived.Test.YtmghkonmfbpjcaaFactP
namespace Go.Proofs.Ytmghkonmfbpjcaa
set_option linter.unusedVariables false
set_option linter.unusedSimpArgs false
open Go.RowKit Go.ChangeShapes Go.WideShapes Go.Deep

theorem arr3 {α : Type} {cs : Array α} (h : cs.size = 3) : ∃ a b c, cs = #[a, b, c] := by
  obtain ⟨l⟩ := cs
  simp at h
  match l, h with
  | [a, b, c], _ => exact ⟨a, b, c, rfl⟩
section
variable {H : Type} {enc : TypeId × Value → H} {w : World} {base : Nat} {spare : Nat → Bool} {held : Bool} {r : Reach} {b0 : Nat} {v : Value} {d : DataW H} {p : List MemPlace}

set_option maxRecDepth 100000 in
theorem term_in (hv : Value.okWide Try.prog w r b0 47 v) (h : DataW.Trod enc Try.prog w base spare held 47 v d p) :
    ∃ t : Tm, v = .agg #[.int .i64 t.op, .int .i64 t.a, .int .i64 t.b] := by
  obtain ⟨cs, rfl, hsz, n, hf⟩ := agg_reads Try.underlying47 (by kernel_rfl) (by kernel_rfl) hv h
  obtain ⟨c0, c1, c2, rfl⟩ := arr3 hsz
  obtain ⟨_, y0, e0, h0⟩ := hf 0 _ rfl
  obtain ⟨_, y1, e1, h1⟩ := hf 1 _ rfl
  obtain ⟨_, y2, e2, h2⟩ := hf 2 _ rfl
  simp at e0 e1 e2
  subst e0; subst e1; subst e2
  obtain ⟨z0, hz0, _⟩ := DataW.trod_int Try.underlying3 h0
  obtain ⟨z1, hz1, _⟩ := DataW.trod_int Try.underlying3 h1
  obtain ⟨z2, hz2, _⟩ := DataW.trod_int Try.underlying3 h2
  simp at hz0 hz1 hz2
  subst hz0; subst hz1; subst hz2
  exact ⟨⟨z0, z1, z2⟩, rfl⟩

end
end Go.Proofs.Ytmghkonmfbpjcaa
