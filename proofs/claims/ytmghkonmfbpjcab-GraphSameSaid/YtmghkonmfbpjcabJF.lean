/- ArgP; ArgT; ArgR: merged texts. -/
import Derived.Test.YtmghkonmfbpjcabLift
import Derived.Test.YtmghkonmfbpjcabChecked
import Derived.Test.YtmghkonmfbpjcabJA
import Derived.Test.YtmghkonmfbpjcabCRow
/- A program as this program's types lay it: the argument that reads, written out. -/
namespace Go.Proofs.Ytmghkonmfbpjcab
set_option linter.unusedVariables false
set_option linter.unusedSimpArgs false
open Go.RowKit Go.ChangeShapes Go.WideShapes Go.Deep

section
variable {H : Type} {enc : TypeId × Value → H} {w : World} {base : Nat} {spare : Nat → Bool} {held : Bool} {r : Reach} {b0 : Nat} {v : Value} {d : DataW H} {p : List MemPlace}

set_option maxRecDepth 100000 in
theorem prog_in (hv : Value.okWide Try.prog w r b0 24 v) (h : DataW.Trod enc Try.prog w base spare held 24 v d p) :
    ∃ (regs : Int) (A : Option Addr) (l : List Nd) (cap : Nat), v = .agg #[.int .i64 regs, .slice A l.length cap] ∧ l.length ≤ maxLen ∧ NodesAt w A l := by
  obtain ⟨cs, rfl, hsz, n, hf⟩ := agg_reads Try.underlying24 (by kernel_rfl) (by kernel_rfl) hv h
  obtain ⟨c0, c1, rfl⟩ := arr2 hsz
  obtain ⟨_, y0, e0, h0⟩ := hf 0 _ rfl
  obtain ⟨_, y1, e1, h1⟩ := hf 1 _ rfl
  simp at e0 e1
  subst e0; subst e1
  obtain ⟨z, hz, _⟩ := DataW.trod_int Try.underlying3 h0
  obtain ⟨A, c, l, hl, hm, hA⟩ := open_nodes Try.underlying22 Try.underlying60 (by kernel_rfl) (by kernel_rfl) (by simp [Try.underlying3]) h1
  simp at hz hl
  subst hz; subst hl
  exact ⟨z, A, l, c, rfl, hm, hA⟩

end
end Go.Proofs.Ytmghkonmfbpjcab

/- A term as this program's types lay it: the argument that reads, written out. -/
namespace Go.Proofs.Ytmghkonmfbpjcab
set_option linter.unusedVariables false
set_option linter.unusedSimpArgs false
open Go.RowKit Go.ChangeShapes Go.WideShapes Go.Deep

theorem arr3 {α : Type} {cs : Array α} (h : cs.size = 3) : ∃ a b c, cs = #[a, b, c] := by
  obtain ⟨l⟩ := cs
  simp at h
  match l, h with
  | [a, b, c], _ => exact ⟨a, b, c, rfl⟩
section
variable {H : Type} {enc : TypeId × Value → H} {w : World} {base : Nat} {spare : Nat → Bool} {held : Bool} {r : Reach} {b0 : Nat} {v : Value} {d : DataW H} {p : List MemPlace}

set_option maxRecDepth 100000 in
theorem term_in (hv : Value.okWide Try.prog w r b0 42 v) (h : DataW.Trod enc Try.prog w base spare held 42 v d p) :
    ∃ t : Tm, v = .agg #[.int .i64 t.op, .int .i64 t.a, .int .i64 t.b] := by
  obtain ⟨cs, rfl, hsz, n, hf⟩ := agg_reads Try.underlying42 (by kernel_rfl) (by kernel_rfl) hv h
  obtain ⟨c0, c1, c2, rfl⟩ := arr3 hsz
  obtain ⟨_, y0, e0, h0⟩ := hf 0 _ rfl
  obtain ⟨_, y1, e1, h1⟩ := hf 1 _ rfl
  obtain ⟨_, y2, e2, h2⟩ := hf 2 _ rfl
  simp at e0 e1 e2
  subst e0; subst e1; subst e2
  obtain ⟨z0, hz0, _⟩ := DataW.trod_int Try.underlying3 h0
  obtain ⟨z1, hz1, _⟩ := DataW.trod_int Try.underlying3 h1
  obtain ⟨z2, hz2, _⟩ := DataW.trod_int Try.underlying3 h2
  simp at hz0 hz1 hz2
  subst hz0; subst hz1; subst hz2
  exact ⟨⟨z0, z1, z2⟩, rfl⟩

end
end Go.Proofs.Ytmghkonmfbpjcab

/- Numbers and results as this program's types lie: the arguments that read, written out. -/
namespace Go.Proofs.Ytmghkonmfbpjcab
set_option linter.unusedVariables false
set_option linter.unusedSimpArgs false
open Go.RowKit Go.ChangeShapes Go.WideShapes Go.Deep

section
variable {H : Type} {enc : TypeId × Value → H} {P : Program} {w : World} {base : Nat} {spare : Nat → Bool} {held : Bool}
theorem open_ints {t e : TypeId} {fuel : Nat} {cs : List Value} {x : DataW H × List MemPlace} (ht : P.underlying t = some (.slice e)) (he : P.underlying e = some (.int .i64)) (hc : P.cellsOf e = 1)
    (h : DataW.trod enc P w base spare held fuel t cs = some x) :
    ∃ (S : Option Addr) (c : Nat) (l : List Int), cs = [.slice S l.length c] ∧ l.length ≤ c ∧ c ≤ maxLen ∧ ValsAt w S (ints l) := by
  rcases open_slice1 ht hc h with ⟨rfl, _⟩ | ⟨a, len, cap, m, n, V, D, Pl, rfl, _, hl, hm, hmm, _, hx⟩
  · exact ⟨none, 0, [], rfl, Nat.le_refl _, by simp, ValsAt.nil⟩
  have hlm : len ≤ m := by rw [hmm]; split <;> omega
  obtain ⟨Z, hZ⟩ := choose_lt (α := Int) (n := len) (p := fun i z => w.cell? (a.add i) = some (.int .i64 z)) (fun i hi => by
    obtain ⟨h1, h2⟩ := hx i (by omega)
    obtain ⟨z, hz, _⟩ := DataW.trod_int he h2
    simp at hz
    exact ⟨z, hz ▸ h1⟩)
  refine ⟨some a, cap, (List.range len).map Z, by simp, by simpa using hl, hm, ?_⟩
  intro hn
  have hpos : 0 < len := by
    rcases Nat.eq_zero_or_pos len with h0 | h0
    · subst h0; exact absurd rfl hn
    · exact h0
  have h0 := hZ 0 hpos
  have hsp : a.spot = none := World.cell?_spot (a := a) (by simpa [Addr.add] using h0)
  obtain ⟨b, off, sp⟩ := a
  simp only at hsp
  subst hsp
  refine ⟨b, off, rfl, World.block_lt_of_cell? w ⟨b, off + 0, none⟩ (by rw [add_flat] at h0; exact h0), fun i v hi => ?_⟩
  rw [ints_get] at hi
  by_cases hil : i < len
  · simp [hil] at hi
    subst hi
    have := hZ i hil
    rwa [add_flat] at this
  · simp [hil] at hi
theorem open_counts {t e e3 : TypeId} {f0 f1 g0 g1 g2 : Field} {fuel : Nat} {cs : List Value} {x : DataW H × List MemPlace} (ht : P.underlying t = some (.slice e)) (he : P.underlying e = some (.struct #[f0, f1])) (hf0 : f0.type = e3 ∧ f0.offset = 0) (hf1 : f1.offset = 3)
    (h3 : P.underlying e3 = some (.struct #[g0, g1, g2])) (hone : oneCellFields P #[g0, g1, g2] = true) (hC : P.cellsOf e = 4) (hC3 : P.cellsOf e3 = 3) (hC1 : P.cellsOf f1.type = 1) (hint : ∀ f ∈ [g0, g1, g2, f1], P.underlying f.type = some (.int .i64))
    (h : DataW.trod enc P w base spare held fuel t cs = some x) :
    ∃ (A : Option Addr) (c : Nat) (l : List Ct), cs = [.slice A l.length c] ∧ l.length ≤ maxLen ∧ CtsAt w A l := by
  rcases open_slice ht h with ⟨rfl, _⟩ | ⟨a, len, cap, m, n, D, Pl, rfl, _, hl, hm, hmm, _, hx⟩
  · exact ⟨none, 0, [], rfl, by simp, fun h => absurd rfl h⟩
  have hlm : len ≤ m := by rw [hmm]; split <;> omega
  rw [hC] at hx
  haveI : Inhabited Ct := ⟨(⟨0, 0, 0⟩, 0)⟩
  obtain ⟨Z, hZ⟩ := choose_lt (α := Ct) (n := len) (p := fun i z => ∀ j, j < 4 → w.cell? ((a.add (i * 4)).add j) = (Ct.cells z)[j]?) (fun i hi => by
    obtain ⟨cs', h1, h2⟩ := hx i (by omega)
    obtain ⟨_, hlen, hcell⟩ := World.cells?_some h1
    obtain ⟨xs, k, _, _, _, hxl, hf⟩ := DataW.trod_struct he h2
    have hxl : xs.length = 2 := hxl
    have hA := hf 0 f0 rfl
    have hB := hf 1 f1 rfl
    rw [hf0.1, hf0.2, hC3, List.drop_zero] at hA
    rw [hf1, hC1] at hB
    obtain ⟨z3, e4⟩ := node_cell (hint f1 (by simp)) (by rw [List.getElem?_eq_getElem (by omega)]; rfl) hB
    rw [List.getElem?_eq_getElem (by omega)] at hA
    obtain ⟨ys, k2, _, _, _, hyl, hg⟩ := DataW.trod_struct h3 hA
    have hyl : ys.length = 3 := hyl
    have one : ∀ (o : Nat) (f : Field), #[g0, g1, g2][o]? = some f → f ∈ [g0, g1, g2, f1] → ∃ z, cs'[o]? = some (.int .i64 z) := by
      intro o f ho hm
      have hlt : o < 3 := (Array.getElem?_eq_some_iff.1 ho).1
      obtain ⟨h5, h6⟩ := hone_of hone o f ho
      have := hg o f ho
      rw [h5, h6] at this
      obtain ⟨z, hz⟩ := node_cell (hint f hm) (by rw [List.getElem?_eq_getElem (by omega)]; rfl) this
      rw [List.getElem?_take, if_pos hlt] at hz
      exact ⟨z, hz⟩
    obtain ⟨z0, e0⟩ := one 0 g0 rfl (by simp)
    obtain ⟨z1, e1⟩ := one 1 g1 rfl (by simp)
    obtain ⟨z2, e2⟩ := one 2 g2 rfl (by simp)
    refine ⟨(⟨z0, z1, z2⟩, z3), fun j hj => ?_⟩
    rw [hcell j hj]
    match j, hj with
    | 0, _ => exact e0
    | 1, _ => exact e1
    | 2, _ => exact e2
    | 3, _ => exact e4)
  have hll : ((List.range len).map Z).length = len := by simp
  refine ⟨some a, cap, (List.range len).map Z, by rw [hll], by omega, ?_⟩
  intro hn
  have hpos : 0 < len := by
    rcases Nat.eq_zero_or_pos len with h0 | h0
    · subst h0; exact absurd rfl hn
    · exact h0
  have h0 := hZ 0 hpos 0 (by omega)
  have hsp : a.spot = none := World.cell?_spot (a := a) (v := .int .i64 (Z 0).1.op) (by simpa [Addr.add, Ct.cells] using h0)
  obtain ⟨b, off, sp⟩ := a
  simp only at hsp
  subst hsp
  refine ⟨b, off, rfl, World.block_lt_of_cell? w ⟨b, off, none⟩ (u := .int .i64 (Z 0).1.op) (by simpa [Addr.add, Ct.cells] using h0), fun i v hi => ?_⟩
  by_cases hil : i < len
  · simp [hil] at hi
    subst hi
    have hz := hZ i hil
    refine ⟨?_, ?_, ?_, ?_⟩
    · have := hz 0 (by omega); rw [add_flat, add_flat] at this; exact this
    · have := hz 1 (by omega); rw [add_flat, add_flat] at this; exact this
    · have := hz 2 (by omega); rw [add_flat, add_flat] at this; exact this
    · have := hz 3 (by omega); rw [add_flat, add_flat] at this; exact this
  · simp [hil] at hi
end
theorem arr5 {α : Type} {cs : Array α} (h : cs.size = 5) : ∃ a b c d e, cs = #[a, b, c, d, e] := by
  obtain ⟨l⟩ := cs
  simp at h
  match l, h with
  | [a, b, c, d, e], _ => exact ⟨a, b, c, d, e, rfl⟩
section
variable {H : Type} {enc : TypeId × Value → H} {w : World} {base : Nat} {spare : Nat → Bool} {held : Bool} {r : Reach} {b0 : Nat} {v : Value} {d : DataW H} {p : List MemPlace}
set_option maxRecDepth 100000 in
theorem ints_in (hv : Value.okWide Try.prog w r b0 25 v) (h : DataW.Trod enc Try.prog w base spare held 25 v d p) :
    ∃ (S : Option Addr) (c : Nat) (l : List Int), v = .slice S l.length c ∧ l.length ≤ c ∧ c ≤ maxLen ∧ ValsAt w S (ints l) := by
  obtain ⟨a, len, cap, rfl⟩ := okWide_slice Try.underlying25 hv
  obtain ⟨fuel, hf⟩ := h
  obtain ⟨S, c, l, e, hx⟩ := open_ints Try.underlying25 Try.underlying3 (by kernel_rfl) hf
  simp [Value.cells] at e
  obtain ⟨rfl, rfl, rfl⟩ := e
  exact ⟨_, _, l, rfl, hx⟩
set_option maxRecDepth 100000 in
theorem result_in (hv : Value.okWide Try.prog w r b0 33 v) (h : DataW.Trod enc Try.prog w base spare held 33 v d p) :
    ∃ (O : Option Addr) (on oc : Nat) (rt : Int) (en : Bool) (st : Int) (C : Option Addr) (cc : Nat) (cs : List Ct), v = .agg #[.slice O on oc, .int .i64 rt, .bool en, .int .i64 st, .slice C cs.length cc] ∧ cs.length ≤ maxLen ∧ CtsAt w C cs := by
  obtain ⟨cs, rfl, hsz, n, hf⟩ := agg_reads Try.underlying33 (by kernel_rfl) (by kernel_rfl) hv h
  obtain ⟨c0, c1, c2, c3, c4, rfl⟩ := arr5 hsz
  obtain ⟨_, y0, e0, h0⟩ := hf 0 _ rfl
  obtain ⟨_, y1, e1, h1⟩ := hf 1 _ rfl
  obtain ⟨_, y2, e2, h2⟩ := hf 2 _ rfl
  obtain ⟨_, y3, e3, h3⟩ := hf 3 _ rfl
  obtain ⟨_, y4, e4, h4⟩ := hf 4 _ rfl
  simp at e0 e1 e2 e3 e4
  subst e0; subst e1; subst e2; subst e3; subst e4
  obtain ⟨O, oc, l, hl, _⟩ := open_ints Try.underlying25 Try.underlying3 (by kernel_rfl) h0
  obtain ⟨z1, hz1, _⟩ := DataW.trod_int Try.underlying3 h1
  obtain ⟨z2, hz2, _⟩ := DataW.trod_bool Try.underlying4 h2
  obtain ⟨z3, hz3, _⟩ := DataW.trod_int Try.underlying3 h3
  obtain ⟨C, cc, cs, hc, hcm, hC⟩ := open_counts Try.underlying31 Try.underlying75 ⟨rfl, rfl⟩ rfl Try.underlying42 (by kernel_rfl) (by kernel_rfl) (by kernel_rfl) (by kernel_rfl) (by simp [Try.underlying3]) h4
  simp at hl hz1 hz2 hz3 hc
  subst hl; subst hz1; subst hz2; subst hz3; subst hc
  exact ⟨O, _, oc, z1, z2, z3, C, cc, cs, rfl, hcm, hC⟩
end
end Go.Proofs.Ytmghkonmfbpjcab
