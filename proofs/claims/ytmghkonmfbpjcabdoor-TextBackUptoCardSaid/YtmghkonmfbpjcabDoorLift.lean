/- How the arguments of a law lie in memory once they read: programs, flows, slices of yes and no. Whatever the program: no function is stepped through here. -/
import Derived.Test.YtmghkonmfbpjcabDoorWords
import Derived.Test.YtmghkonmfbpjcabDoorYes
import Derived.ProofKit
import Derived.Carry
import Derived.Deep.Slices
import Derived.Deep.Fields
import Derived.ChangeSame
namespace Go.Proofs.YtmghkonmfbpjcabDoor
set_option linter.unusedVariables false
set_option linter.unusedSimpArgs false
open Go.RowKit Go.ChangeShapes Go.WideShapes Go.Deep

section
variable {H : Type} {enc : TypeId × Value → H} {P : Program} {w : World} {base : Nat} {spare : Nat → Bool} {held : Bool}

theorem add_flat (b off k : Nat) : (Addr.mk b off none).add k = ⟨b, off + k, none⟩ := by
  unfold Addr.add
  split
  · rename_i h; subst h; rfl
  · rfl

/-- each field of a struct of one-cell fields reads by itself -/
theorem agg_reads {r : Reach} {b0 : Nat} {t : TypeId} {fs : Array Field} {v : Value} {d : DataW H} {p : List MemPlace} (hs : P.underlying t = some (.struct fs)) (hone : oneCellFields P fs = true) (hC : P.cellsOf t = fs.size)
    (hv : Value.okWide P w r b0 t v) (h : DataW.Trod enc P w base spare held t v d p) :
    ∃ cs : Array Value, v = .agg cs ∧ cs.size = fs.size ∧ ∃ n, ∀ (i : Nat) (f : Field), fs[i]? = some f → ∃ (c : Value) (y : DataW H × List MemPlace), cs[i]? = some c ∧ DataW.trod enc P w base spare held n f.type [c] = some y := by
  obtain ⟨cs, rfl, hsz⟩ := okWide_struct hs hv
  obtain ⟨fuel, hf⟩ := h
  obtain ⟨xs, n, _, _, hl, hlen, hx⟩ := DataW.trod_struct hs hf
  refine ⟨cs, rfl, hsz.trans hC, n, fun i f hi => ?_⟩
  have hlt : i < fs.size := (Array.getElem?_eq_some_iff.1 hi).1
  obtain ⟨ho, hc⟩ := hone_of hone i f hi
  have hx := hx i f hi
  rw [ho, hc] at hx
  have hic : i < cs.size := by omega
  refine ⟨cs[i], xs[i], Array.getElem?_eq_getElem hic, ?_⟩
  rw [List.getElem?_eq_getElem (by omega)] at hx
  have hcell : ((Value.agg cs).cells.toList.drop i).take 1 = [cs[i]] := by
    have hl : i < cs.toList.length := by simpa using hic
    show (cs.toList.drop i).take 1 = _
    rw [List.drop_eq_getElem_cons hl]
    simp
  rw [hcell] at hx
  exact hx

theorem open_bools {t e : TypeId} {fuel : Nat} {cs : List Value} {x : DataW H × List MemPlace} (ht : P.underlying t = some (.slice e)) (he : P.underlying e = some .bool) (hc : P.cellsOf e = 1)
    (h : DataW.trod enc P w base spare held fuel t cs = some x) :
    ∃ (S : Option Addr) (n c : Nat) (bs : List Bool), cs = [.slice S n c] ∧ bs.length = n ∧ n ≤ maxLen ∧ ValsAt w S (bools bs) := by
  rcases open_slice1 ht hc h with ⟨rfl, _⟩ | ⟨a, len, cap, m, n, V, D, Pl, rfl, _, hl, hm, hmm, _, hx⟩
  · exact ⟨none, 0, 0, [], rfl, rfl, by simp, ValsAt.nil⟩
  have hlm : len ≤ m := by rw [hmm]; split <;> omega
  obtain ⟨Z, hZ⟩ := choose_lt (α := Bool) (n := len) (p := fun i z => w.cell? (a.add i) = some (.bool z)) (fun i hi => by
    obtain ⟨h1, h2⟩ := hx i (by omega)
    obtain ⟨z, hz, _⟩ := DataW.trod_bool he h2
    simp at hz
    exact ⟨z, hz ▸ h1⟩)
  refine ⟨some a, len, cap, (List.range len).map Z, rfl, by simp, by omega, ?_⟩
  intro hn
  have hpos : 0 < len := by
    rcases Nat.eq_zero_or_pos len with h0 | h0
    · subst h0; exact absurd rfl hn
    · exact h0
  have h0 := hZ 0 hpos
  have hsp : a.spot = none := World.cell?_spot (a := a) (by simpa [Addr.add] using h0)
  obtain ⟨b, off, sp⟩ := a
  simp only at hsp
  subst hsp
  refine ⟨b, off, rfl, World.block_lt_of_cell? w ⟨b, off + 0, none⟩ (by rw [add_flat] at h0; exact h0), fun i v hi => ?_⟩
  rw [bools_get] at hi
  by_cases hil : i < len
  · simp [hil] at hi
    subst hi
    have := hZ i hil
    rwa [add_flat] at this
  · simp [hil] at hi

theorem node_cell {fuel : Nat} {t : TypeId} {cs : List Value} {o : Nat} {y : Option (DataW H × List MemPlace)} (ht : P.underlying t = some (.int .i64)) (hy : y.isSome = true)
    (h : DataW.trod enc P w base spare held fuel t ((cs.drop o).take 1) = y) : ∃ z, cs[o]? = some (.int .i64 z) := by
  obtain ⟨y, rfl⟩ := Option.isSome_iff_exists.1 hy
  obtain ⟨z, hz, _⟩ := DataW.trod_int ht h
  refine ⟨z, ?_⟩
  rcases Nat.lt_or_ge o cs.length with hlt | hge
  · rw [List.drop_eq_getElem_cons hlt] at hz
    rw [List.take_succ_cons] at hz
    rw [List.getElem?_eq_getElem hlt, (List.cons.inj hz).1]
  · rw [List.drop_of_length_le hge] at hz
    simp at hz

theorem open_nodes {t e : TypeId} {f0 f1 f2 f3 f4 f5 : Field} {fuel : Nat} {cs : List Value} {x : DataW H × List MemPlace} (ht : P.underlying t = some (.slice e)) (he : P.underlying e = some (.struct #[f0, f1, f2, f3, f4, f5]))
    (hone : oneCellFields P #[f0, f1, f2, f3, f4, f5] = true) (hC : P.cellsOf e = 6) (hint : ∀ f ∈ [f0, f1, f2, f3, f4, f5], P.underlying f.type = some (.int .i64))
    (h : DataW.trod enc P w base spare held fuel t cs = some x) :
    ∃ (A : Option Addr) (c : Nat) (l : List Nd), cs = [.slice A l.length c] ∧ l.length ≤ maxLen ∧ NodesAt w A l := by
  rcases open_slice ht h with ⟨rfl, _⟩ | ⟨a, len, cap, m, n, D, Pl, rfl, _, hl, hm, hmm, _, hx⟩
  · exact ⟨none, 0, [], rfl, by simp, fun h => absurd rfl h⟩
  have hlm : len ≤ m := by rw [hmm]; split <;> omega
  rw [hC] at hx
  obtain ⟨Z, hZ⟩ := choose_lt (α := Nd) (n := len) (p := fun i z => ∀ j, j < 6 → w.cell? ((a.add (i * 6)).add j) = z.cells[j]?) (fun i hi => by
    obtain ⟨cs', h1, h2⟩ := hx i (by omega)
    obtain ⟨_, hlen, hcell⟩ := World.cells?_some h1
    obtain ⟨xs, k, _, _, _, hxl, hf⟩ := DataW.trod_struct he h2
    have hxl : xs.length = 6 := hxl
    have one : ∀ (o : Nat) (f : Field), #[f0, f1, f2, f3, f4, f5][o]? = some f → f ∈ [f0, f1, f2, f3, f4, f5] → ∃ z, cs'[o]? = some (.int .i64 z) := by
      intro o f ho hm
      have hlt : o < 6 := (Array.getElem?_eq_some_iff.1 ho).1
      obtain ⟨h3, h4⟩ := hone_of hone o f ho
      have := hf o f ho
      rw [h3, h4] at this
      exact node_cell (hint f hm) (by rw [List.getElem?_eq_getElem (by omega)]; rfl) this
    obtain ⟨z0, e0⟩ := one 0 f0 rfl (by simp)
    obtain ⟨z1, e1⟩ := one 1 f1 rfl (by simp)
    obtain ⟨z2, e2⟩ := one 2 f2 rfl (by simp)
    obtain ⟨z3, e3⟩ := one 3 f3 rfl (by simp)
    obtain ⟨z4, e4⟩ := one 4 f4 rfl (by simp)
    obtain ⟨z5, e5⟩ := one 5 f5 rfl (by simp)
    refine ⟨⟨z0, z1, z2, z3, z4, z5⟩, fun j hj => ?_⟩
    rw [hcell j hj]
    match j, hj with
    | 0, _ => exact e0
    | 1, _ => exact e1
    | 2, _ => exact e2
    | 3, _ => exact e3
    | 4, _ => exact e4
    | 5, _ => exact e5)
  have hll : ((List.range len).map Z).length = len := by simp
  refine ⟨some a, cap, (List.range len).map Z, by rw [hll], by omega, ?_⟩
  intro hn
  have hpos : 0 < len := by
    rcases Nat.eq_zero_or_pos len with h0 | h0
    · subst h0; exact absurd rfl hn
    · exact h0
  have h0 := hZ 0 hpos 0 (by omega)
  have hsp : a.spot = none := World.cell?_spot (a := a) (v := .int .i64 (Z 0).op) (by simpa [Addr.add, Nd.cells] using h0)
  obtain ⟨b, off, sp⟩ := a
  simp only at hsp
  subst hsp
  refine ⟨b, off, rfl, World.block_lt_of_cell? w ⟨b, off, none⟩ (u := .int .i64 (Z 0).op) (by simpa [Addr.add, Nd.cells] using h0), fun i v hi => ?_⟩
  by_cases hil : i < len
  · simp [hil] at hi
    subst hi
    have hz := hZ i hil
    refine ⟨?_, ?_, ?_, ?_, ?_, ?_⟩
    · have := hz 0 (by omega); rw [add_flat, add_flat] at this; exact this
    · have := hz 1 (by omega); rw [add_flat, add_flat] at this; exact this
    · have := hz 2 (by omega); rw [add_flat, add_flat] at this; exact this
    · have := hz 3 (by omega); rw [add_flat, add_flat] at this; exact this
    · have := hz 4 (by omega); rw [add_flat, add_flat] at this; exact this
    · have := hz 5 (by omega); rw [add_flat, add_flat] at this; exact this
  · simp [hil] at hi
end

theorem arr2 {α : Type} {cs : Array α} (h : cs.size = 2) : ∃ a b, cs = #[a, b] := by
  obtain ⟨l⟩ := cs
  match l, h with
  | [a, b], _ => exact ⟨a, b, rfl⟩
theorem arr6 {α : Type} {cs : Array α} (h : cs.size = 6) : ∃ a b c d e f, cs = #[a, b, c, d, e, f] := by
  obtain ⟨l⟩ := cs
  match l, h with
  | [a, b, c, d, e, f], _ => exact ⟨a, b, c, d, e, f, rfl⟩

section
variable {H : Type} {enc : TypeId × Value → H} {P : Program}
/-- the row's last step where only what lies below is known of the world behind the call -/
theorem post_low {f : Func} {s : ChangeSpec} {apart fresh handsOn again : Bool} {W W' : World} {args : Array Value} {v : Value} {ds gs : List (DataW H)} {before pa pv : List MemPlace}
    (hW : DataW.Whole enc P f.params.toList s.vars apart W args.toList ds gs before)
    (hres : ∀ (b : Nat) (sp : Nat → Bool) (hd : Bool), DataW.TrodAll enc P W' b sp hd f.resultTypes.toList (v.resultList f.resultTypes.size) (s.fn H (ds ++ gs)).results [])
    (hargs : ∀ sp : Nat → Bool, (∀ p ∈ before, sp p.block = true) → DataW.TrodAll enc P W' 0 sp true f.params.toList args.toList (s.fn H (ds ++ gs)).args pa)
    (hvars : ∀ sp : Nat → Bool, (∀ p ∈ before, sp p.block = true) → DataW.TrodVars enc P W' sp s.vars (s.fn H (ds ++ gs)).vars pv)
    (hps : before = pa ++ pv) (hb : Below W.heap.size W W')
    (hok : ∀ (j : Nat) (t : TypeId) (r : Value), f.resultTypes[j]? = some t → (v.resultList f.resultTypes.size)[j]? = some r → Value.okWide P W' .any 0 t r) :
    s.post enc P f apart fresh handsOn again W args v W' := by
  have low : ∀ p ∈ before, p.block < W.heap.size := fun p hp => hW.lt p hp
  have old : ∀ p ∈ before, (fun b => decide (b < W.heap.size)) p.block = true := fun p hp => by simpa using low p hp
  subst hps
  refine ⟨ds, gs, _, [], pa, pv, hW, hres _ _ _, hargs _ old, hvars _ old, World.keptBut_mono (fun p hp => ⟨hp, Or.inr (by simpa using hp)⟩) (hb.frame (· ∈ pa ++ pv)), fun _ => ?_⟩
  obtain ⟨_, _, _, _, _, hz, hn⟩ := hW
  refine ⟨hok, _, _, ([] ++ pa) ++ pv, ⟨[] ++ pa, pv, trodAll_append (hargs _ (fun _ _ => rfl)) (hres _ _ _), hvars _ (fun _ _ => rfl), rfl, ?_, ?_⟩, ?_⟩
  · intro b off hp
    have hin : MemPlace.cell b off ∈ pa ++ pv := by simpa using hp
    rw [hb.frozen (low _ hin)]
    exact hz b off hin
  · intro ha
    simpa using hn ha
  · intro p hp _
    simpa using hp
end
end Go.Proofs.YtmghkonmfbpjcabDoor
