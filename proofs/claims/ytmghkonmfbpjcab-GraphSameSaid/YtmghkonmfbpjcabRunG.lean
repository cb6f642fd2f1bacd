/- The counts come out of the map in whatever order: what has been collected. -/
import Derived.Test.YtmghkonmfbpjcabJD
import Derived.Test.YtmghkonmfbpjcabCRow
import Derived.Maps.RangeWalk
namespace Go.Proofs.Ytmghkonmfbpjcab
set_option linter.unusedVariables false
set_option linter.unusedSimpArgs false
open Go.RowKit
open Go.Maps
set_option maxHeartbeats 4000000

set_option maxRecDepth 100000 in
theorem keyTerm_inv {key : Value} {kl : Lit} (h : keyOf Try.prog 42 key = some kl) : ∃ t : Tm, key = t.val := by
  obtain ⟨s, hs⟩ : ∃ s, Try.prog.types.size + 1 = s + 2 := ⟨Try.prog.types.size - 1, by kernel_rfl⟩
  simp only [keyOf, Try.underlying42] at h
  replace h : (if (Try.prog.keyType 42 && key.formed Try.prog 42) = true then (Try.prog.keyLits (Try.prog.types.size + 1) 42 key.cells.toList).map fun ls => Lit.string (keyBytes ls) else none) = some kl := h
  split at h
  · rename_i hf
    rw [Bool.and_eq_true] at hf
    have hf := hf.2
    cases key with
    | agg cs =>
      simp only [Value.formed, Try.underlying42, cellsTerm, beq_iff_eq] at hf
      obtain ⟨l⟩ := cs
      match l, hf with
      | [x, y, z], _ =>
        rw [hs] at h
        simp only [Program.keyLits, Try.underlying42, cellsTerm, Value.cells] at h
        obtain ⟨ls, h, _⟩ := Option.map_eq_some_iff.1 h
        split at h
        · obtain ⟨lss, h, _⟩ := Option.map_eq_some_iff.1 h
          simp only [List.mapM_cons, List.mapM_nil, cellsInt, Try.underlying3, List.drop_zero, List.drop_succ_cons, List.take_succ_cons, List.take_zero, bind, Option.bind_eq_some_iff] at h
          obtain ⟨r0, h0, _, ⟨r1, h1, _, ⟨r2, h2, _⟩, _⟩, _⟩ := h
          obtain ⟨n0, rfl⟩ : ∃ n, x = .int .i64 n := by
            cases x <;> simp at h0
            exact ⟨_, by rw [h0.1.1]⟩
          obtain ⟨n1, rfl⟩ : ∃ n, y = .int .i64 n := by
            cases y <;> simp at h1
            exact ⟨_, by rw [h1.1.1]⟩
          obtain ⟨n2, rfl⟩ : ∃ n, z = .int .i64 n := by
            cases z <;> simp at h2
            exact ⟨_, by rw [h2.1.1]⟩
          exact ⟨⟨n0, n1, n2⟩, rfl⟩
        · cases h
    | _ => simp [Value.formed, Try.underlying42] at hf
  · cases h

/-- what has come out of the map so far -/
structure Got (D : DataW Unit) (ts : List Tm) (left : Lit → Bool) (cs : List Ct) : Prop where
  val : ∀ x ∈ cs, x.2 = (ts.count x.1 : Int) ∧ ∃ kl, keyOf Try.prog 42 x.1.val = some kl ∧ left kl = false ∧ Maps.has D kl = true
  all : ∀ kl, Maps.has D kl = true → left kl = false → ∃ x ∈ cs, keyOf Try.prog 42 x.1.val = some kl
  one : (cs.map Prod.fst).Nodup
  sub : ∀ kl, left kl = true → Maps.has D kl = true
theorem Got.start (D : DataW Unit) (ts : List Tm) : Got D ts (Maps.has D) [] :=
  ⟨fun x hx => (by cases hx), fun kl h1 h2 => (by rw [h1] at h2; cases h2), List.nodup_nil, fun kl h => h⟩
theorem Got.step {D : DataW Unit} {ts : List Tm} {left : Lit → Bool} {cs : List Ct} (h : Got D ts left cs) {t : Tm} {kl : Lit} (hk : keyOf Try.prog 42 t.val = some kl) (hl : left kl = true) {c : Int} (hc : c = (ts.count t : Int)) :
    Got D ts (fun z => left z && !z.sameKey kl) (cs ++ [(t, c)]) := by
  obtain ⟨sb, rfl⟩ := lawTerm.str hk
  have hkl : WideAt.IsKeyLit (.string sb) := trivial
  refine ⟨fun x hx => ?_, fun kl' h1 h2 => ?_, ?_, fun kl' hl' => h.sub kl' (by rw [Bool.and_eq_true] at hl'; exact hl'.1)⟩
  · rcases List.mem_append.1 hx with hx | hx
    · obtain ⟨h1, kl', h2, h3, h4⟩ := h.val x hx
      exact ⟨h1, kl', h2, by rw [h3]; rfl, h4⟩
    · simp at hx
      subst hx
      exact ⟨hc, _, hk, by rw [WideAt.sameKey_self hkl]; simp, h.sub _ hl⟩
  · rw [Bool.and_eq_false_iff] at h2
    by_cases he : kl' = .string sb
    · exact ⟨(t, c), by simp, by rw [he]; exact hk⟩
    · rcases h2 with h2 | h2
      · obtain ⟨x, hx, hxk⟩ := h.all kl' h1 h2
        exact ⟨x, by simp [hx], hxk⟩
      · exact absurd (WideAt.sameKey_eq (by simpa using h2)) he
  · rw [List.map_append, List.nodup_append]
    refine ⟨h.one, by simp, fun a ha b hb => ?_⟩
    simp at hb
    subst hb
    rintro rfl
    obtain ⟨x, hx, hxe⟩ := List.mem_map.1 ha
    obtain ⟨_, kl', h2, h3, _⟩ := h.val x hx
    rw [hxe, hk] at h2
    rw [← Option.some.inj h2, hl] at h3
    cases h3
theorem Got.count {D : DataW Unit} {ts : List Tm} {left : Lit → Bool} {cs : List Ct} (h : Got D ts left cs) (hall : ∀ kl, left kl = false)
    (h1 : ∀ l, Maps.has D l = true → ∃ t ∈ ts, keyOf Try.prog 42 t.val = some l) (h2 : ∀ t ∈ ts, ∃ l, keyOf Try.prog 42 t.val = some l ∧ Maps.has D l = true)
    {ds : List Ct} (hp : ds.Perm cs) (hA : Asc ds) : ds = countsL ts := by
  have hmem : ∀ x ∈ ds, x.2 = (ts.count x.1 : Int) ∧ x.1 ∈ ts := fun x hx => by
    obtain ⟨e1, kl, e2, _, e3⟩ := h.val x (hp.mem_iff.1 hx)
    obtain ⟨t, ht, e4⟩ := h1 kl e3
    have : x.1 = t := tm_inj (lawTerm.inj e2 e4)
    exact ⟨e1, this ▸ ht⟩
  refine asc_unique _ _ hA (countsL_asc ts) (fun x hx => ?_) (countsL_pos ts) fun t => ?_
  · obtain ⟨e1, e2⟩ := hmem x hx
    rw [e1]
    exact Int.natCast_pos.2 (List.count_pos_iff.2 e2)
  · rw [countsL_cnt]
    by_cases ht : t ∈ ts
    · obtain ⟨l, e1, e2⟩ := h2 t ht
      obtain ⟨x, hx, e3⟩ := h.all l e2 (hall l)
      have hxt : x.1 = t := tm_inj (lawTerm.inj e3 e1)
      subst hxt
      rw [cntOf_mem hA (hp.mem_iff.2 hx)]
      exact (h.val x hx).1
    · rw [List.count_eq_zero_of_not_mem ht]
      exact cntOf_none fun x hx e => ht (e ▸ (hmem x hx).2)
end Go.Proofs.Ytmghkonmfbpjcab
