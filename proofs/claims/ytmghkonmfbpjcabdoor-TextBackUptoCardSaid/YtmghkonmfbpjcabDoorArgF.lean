/- A program that comes in, with the bounds that its numbers have. -/
import Derived.Test.YtmghkonmfbpjcabDoorArgP
import Derived.Test.YtmghkonmfbpjcabDoorTxH
namespace Go.Proofs.YtmghkonmfbpjcabDoor
set_option linter.unusedVariables false
set_option linter.unusedSimpArgs false
open Go.RowKit Go.ChangeShapes Go.WideShapes Go.Deep

theorem wf_fit {n : Int} (h : (Lit.int .i64 n).wf = true) : i64ok n := by
  unfold Lit.wf at h
  rw [Bool.and_eq_true] at h
  exact ⟨of_decide_eq_true h.1, of_decide_eq_true h.2⟩
section
variable {H : Type} {enc : TypeId × Value → H} {P : Program} {w : World} {base : Nat} {spare : Nat → Bool} {held : Bool}
theorem node_cell_fit {fuel : Nat} {t : TypeId} {cs : List Value} {o : Nat} {y : Option (DataW H × List MemPlace)} (ht : P.underlying t = some (.int .i64)) (hy : y.isSome = true)
    (h : DataW.trod enc P w base spare held fuel t ((cs.drop o).take 1) = y) : ∃ z, cs[o]? = some (.int .i64 z) ∧ i64ok z := by
  obtain ⟨y, rfl⟩ := Option.isSome_iff_exists.1 hy
  obtain ⟨z, hz, hw⟩ := DataW.trod_int ht h
  refine ⟨z, ?_, wf_fit hw.2⟩
  rcases Nat.lt_or_ge o cs.length with hlt | hge
  · rw [List.drop_eq_getElem_cons hlt] at hz
    rw [List.take_succ_cons] at hz
    rw [List.getElem?_eq_getElem hlt, (List.cons.inj hz).1]
  · rw [List.drop_of_length_le hge] at hz
    simp at hz

theorem open_nodes_fit {t e : TypeId} {f0 f1 f2 f3 f4 f5 : Field} {fuel : Nat} {cs : List Value} {x : DataW H × List MemPlace} (ht : P.underlying t = some (.slice e)) (he : P.underlying e = some (.struct #[f0, f1, f2, f3, f4, f5]))
    (hone : oneCellFields P #[f0, f1, f2, f3, f4, f5] = true) (hC : P.cellsOf e = 6) (hint : ∀ f ∈ [f0, f1, f2, f3, f4, f5], P.underlying f.type = some (.int .i64))
    (h : DataW.trod enc P w base spare held fuel t cs = some x) :
    ∃ (A : Option Addr) (c : Nat) (l : List Nd), cs = [.slice A l.length c] ∧ l.length ≤ maxLen ∧ NodesAt w A l ∧ Fit l := by
  rcases open_slice ht h with ⟨rfl, _⟩ | ⟨a, len, cap, m, n, D, Pl, rfl, _, hl, hm, hmm, _, hx⟩
  · exact ⟨none, 0, [], rfl, by simp, fun h => absurd rfl h, fun n hn => absurd hn (by simp)⟩
  have hlm : len ≤ m := by rw [hmm]; split <;> omega
  rw [hC] at hx
  obtain ⟨Z, hZ⟩ := choose_lt (α := Nd) (n := len) (p := fun i z => (∀ j, j < 6 → w.cell? ((a.add (i * 6)).add j) = z.cells[j]?) ∧ ∀ j, j < 6 → i64ok (z.fld j)) (fun i hi => by
    obtain ⟨cs', h1, h2⟩ := hx i (by omega)
    obtain ⟨_, hlen, hcell⟩ := World.cells?_some h1
    obtain ⟨xs, k, _, _, _, hxl, hf⟩ := DataW.trod_struct he h2
    have hxl : xs.length = 6 := hxl
    have one : ∀ (o : Nat) (f : Field), #[f0, f1, f2, f3, f4, f5][o]? = some f → f ∈ [f0, f1, f2, f3, f4, f5] → ∃ z, cs'[o]? = some (.int .i64 z) ∧ i64ok z := by
      intro o f ho hm
      have hlt : o < 6 := (Array.getElem?_eq_some_iff.1 ho).1
      obtain ⟨h3, h4⟩ := hone_of hone o f ho
      have := hf o f ho
      rw [h3, h4] at this
      exact node_cell_fit (hint f hm) (by rw [List.getElem?_eq_getElem (by omega)]; rfl) this
    obtain ⟨z0, e0, w0⟩ := one 0 f0 rfl (by simp)
    obtain ⟨z1, e1, w1⟩ := one 1 f1 rfl (by simp)
    obtain ⟨z2, e2, w2⟩ := one 2 f2 rfl (by simp)
    obtain ⟨z3, e3, w3⟩ := one 3 f3 rfl (by simp)
    obtain ⟨z4, e4, w4⟩ := one 4 f4 rfl (by simp)
    obtain ⟨z5, e5, w5⟩ := one 5 f5 rfl (by simp)
    refine ⟨⟨z0, z1, z2, z3, z4, z5⟩, fun j hj => ?_, fun j hj => ?_⟩
    · rw [hcell j hj]
      match j, hj with
      | 0, _ => exact e0
      | 1, _ => exact e1
      | 2, _ => exact e2
      | 3, _ => exact e3
      | 4, _ => exact e4
      | 5, _ => exact e5
    · match j, hj with
      | 0, _ => exact w0
      | 1, _ => exact w1
      | 2, _ => exact w2
      | 3, _ => exact w3
      | 4, _ => exact w4
      | 5, _ => exact w5)
  have hll : ((List.range len).map Z).length = len := by simp
  refine ⟨some a, cap, (List.range len).map Z, by rw [hll], by omega, ?_, ?_⟩
  rotate_left
  · intro n hn i hi
    obtain ⟨k, hk, rfl⟩ := List.mem_map.1 hn
    exact (hZ k (by simpa using hk)).2 i hi
  intro hn
  have hpos : 0 < len := by
    rcases Nat.eq_zero_or_pos len with h0 | h0
    · subst h0; exact absurd rfl hn
    · exact h0
  have h0 := (hZ 0 hpos).1 0 (by omega)
  have hsp : a.spot = none := World.cell?_spot (a := a) (v := .int .i64 (Z 0).op) (by simpa [Addr.add, Nd.cells] using h0)
  obtain ⟨b, off, sp⟩ := a
  simp only at hsp
  subst hsp
  refine ⟨b, off, rfl, World.block_lt_of_cell? w ⟨b, off, none⟩ (u := .int .i64 (Z 0).op) (by simpa [Addr.add, Nd.cells] using h0), fun i v hi => ?_⟩
  by_cases hil : i < len
  · simp [hil] at hi
    subst hi
    have hz := (hZ i hil).1
    refine ⟨?_, ?_, ?_, ?_, ?_, ?_⟩
    · have := hz 0 (by omega); rw [add_flat, add_flat] at this; exact this
    · have := hz 1 (by omega); rw [add_flat, add_flat] at this; exact this
    · have := hz 2 (by omega); rw [add_flat, add_flat] at this; exact this
    · have := hz 3 (by omega); rw [add_flat, add_flat] at this; exact this
    · have := hz 4 (by omega); rw [add_flat, add_flat] at this; exact this
    · have := hz 5 (by omega); rw [add_flat, add_flat] at this; exact this
  · simp [hil] at hi
end
section
variable {H : Type} {enc : TypeId × Value → H} {w : World} {base : Nat} {spare : Nat → Bool} {held : Bool} {r : Reach} {b0 : Nat} {v : Value} {d : DataW H} {p : List MemPlace}
set_option maxRecDepth 100000 in
theorem prog_in_fit (hv : Value.okWide Tryd.prog w r b0 24 v) (h : DataW.Trod enc Tryd.prog w base spare held 24 v d p) :
    ∃ (regs : Int) (A : Option Addr) (l : List Nd) (cap : Nat), v = .agg #[.int .i64 regs, .slice A l.length cap] ∧ l.length ≤ maxLen ∧ NodesAt w A l ∧ Fit l := by
  obtain ⟨cs, rfl, hsz, n, hf⟩ := agg_reads Tryd.underlying24 (by kernel_rfl) (by kernel_rfl) hv h
  obtain ⟨c0, c1, rfl⟩ := arr2 hsz
  obtain ⟨_, y0, e0, h0⟩ := hf 0 _ rfl
  obtain ⟨_, y1, e1, h1⟩ := hf 1 _ rfl
  simp at e0 e1
  subst e0; subst e1
  obtain ⟨z, hz, _⟩ := DataW.trod_int Tryd.underlying3 h0
  obtain ⟨A, c, l, hl, hm, hA, hF⟩ := open_nodes_fit Tryd.underlying22 Tryd.underlying55 (by kernel_rfl) (by kernel_rfl) (by simp [Tryd.underlying3]) h1
  simp at hz hl
  subst hz; subst hl
  exact ⟨z, A, l, c, rfl, hm, hA, hF⟩

end
end Go.Proofs.YtmghkonmfbpjcabDoor
