/- m[k]++ on a map of the call's own, keyed by a struct: the two orders of its operations. No program in sight. -/
import Derived.Test.YtmghkonmfbpjcaaTRow
import Derived.Maps.OwnSet
import Derived.Maps.OwnOps
import Derived.WideKeyEntry
import Derived.DeepKeys4
namespace Go.Proofs.Ytmghkonmfbpjcaa
set_option linter.unusedVariables false
set_option linter.unusedSimpArgs false
open Go.RowKit Go.Maps Go.ChangeMaps
open Go.WideMaps (KeyLaw)

theorem setBlock_self {w : World} {b : Nat} {o : Obj} (h : w.heap[b]? = some o) : setBlock w b o = w := by
  have he : w.heap.setIfInBounds b o = w.heap := by
    apply Array.ext_getElem?
    intro i
    rw [Array.getElem?_setIfInBounds]
    split
    · rename_i hi
      subst hi
      split
      · exact h.symm
      · rename_i hlt
        rw [Array.getElem?_eq_none (by omega)] at h
        cases h
    · rfl
  unfold setBlock
  rw [he]
theorem setBlock_twice (w : World) (b : Nat) (o o' : Obj) : setBlock (setBlock w b o) b o' = setBlock w b o' := by
  unfold setBlock
  simp
theorem goInt_inj {a b : Nat} (h : goInt a = goInt b) : a = b := by
  unfold goInt at h
  injection h with _ h
  omega
theorem vint_inj {k : IntKind} {a b : Int} (h : Value.int k a = .int k b) : a = b := by injection h
theorem lint_inj {H : Type} {k : IntKind} {a b : Int} (h : (DataW.lit (.int k a) : DataW H) = .lit (.int k b)) : a = b := by injection h with h; injection h
theorem ok_world {α : Type} {a b : α} {w w' : World} (h : (Result.ok a w : Result α) = .ok b w') : w = w' := by cases h; rfl
theorem ok_val {α : Type} {a b : α} {w w' : World} (h : (Result.ok a w : Result α) = .ok b w') : a = b := by cases h; rfl
theorem map_bump {P : Program} {H : Type} {w : World} {t k e : TypeId} {b n : Nat} {D : DataW H} (KL : KeyLaw P k) (ht : P.underlying t = some (.map k e)) (he : P.underlying e = some (.int .i64))
    (hz : ∀ u : World, (zeroValue e).run P u = .ok (.int .i64 0) u) (h : w.ownsMap P k (plainElem P e) b n D) (hn : n < maxLen) {key : Value} {kl : Lit} (hkey : keyOf P k key = some kl) :
    ∃ c, (Instr.lookup t (.map (some b)) key false).run P w = .ok (.int .i64 c) w ∧ D.atKey kl (.lit (.int .i64 0)) = .lit (.int .i64 c) ∧
      ∃ v0 st w1, (Instr.mapEntry t (.map (some b)) key).run P w = .ok (.tuple #[v0, goInt st]) w1 ∧ w.grownBy w1 (some b) ∧ (Instr.lookup t (.map (some b)) key false).run P w1 = .ok (.int .i64 c) w1 ∧
        ∀ val, (Lit.int .i64 val).wf = true → ∃ w3, (Instr.entryStore t (.map (some b)) (goInt st) (.int .i64 val)).run P w1 = .ok () w3 ∧ w3.ownsMap P k (plainElem P e) b (n + 1) (D.put kl (.lit (.int .i64 val))) ∧ w1.grownBy w3 (some b) := by
  have K : Keyed P k := Keyed.of_law KL
  have h0 := h
  obtain ⟨c, hlook, hat, hwc⟩ := h.lookup_int K ht he (hz w) hkey
  obtain ⟨es, clock, hb, F, hs, hD⟩ := h
  obtain ⟨v0, st, es1, clock1, hme, _, hst⟩ := Go.WideElems.entry_then_store KL ht hz hb F hkey
  have hb1 : (setBlock w b (.map es1 clock1)).heap[b]? = some (.map es1 clock1) := heap_setBlock_same hb _
  refine ⟨c, hlook, hat, v0, st, _, hme, ⟨rfl, rfl, rfl, by simp [setBlock], fun i _ hi => heap_setBlock_other hb _ (fun e => hi (by rw [e]))⟩, ?_, fun val hwv => ?_⟩
  · rcases KL.find w hkey es.toList F.keys with ⟨h1, h2⟩ | ⟨j, e0, h1, h2, h3⟩
    · have r1 : (Instr.mapEntry t (.map (some b)) key).run P w = .ok (.tuple #[.int .i64 0, goInt clock]) (setBlock w b (.map (es.push ⟨key, .int .i64 0, clock⟩) (clock + 1))) := by
        simp [Instr.mapEntry, run_underlying ht, MapKept.run_getObj_map hb, KL.check w false hkey, h1, hz, MapKept.run_setObj_map _ hb, Result.andThen, setBlock]
      have r2 : (Instr.mapUpdate t (.map (some b)) key (.int .i64 0)).run P w = .ok () (setBlock w b (.map (es.push ⟨key, .int .i64 0, clock⟩) (clock + 1))) := by
        simp [Instr.mapUpdate, run_underlying ht, MapKept.run_getObj_map hb, KL.check w false hkey, h1, MapKept.run_setObj_map _ hb, Result.andThen, setBlock]
      have r1 := ok_world (hme.symm.trans r1)
      obtain ⟨w', q1, q2, _⟩ := h0.update K ht hn hkey (plainElem_int he (show (Lit.int .i64 0).wf = true by decide))
      have q1 := ok_world (r2.symm.trans q1)
      rw [← q1, ← r1] at q2
      obtain ⟨c1, p1, p2, _⟩ := q2.lookup_int K ht he (hz _) hkey
      rw [atKey_put_same h0.isMap (K.key hkey)] at p2
      have hl0 : (Instr.lookup t (.map (some b)) key false).run P w = .ok (.int .i64 0) w := by
        simp [Instr.lookup, run_underlying ht, MapKept.run_getObj_map hb, KL.check w _ hkey, h1, hz, Result.andThen]
      have hl0 := ok_val (hlook.symm.trans hl0)
      have hl0 := vint_inj hl0
      have p2 := lint_inj p2
      rw [p1, hl0, ← p2]
    · have hj : es[j]? = some e0 := by simpa using h2
      have hsame : es.modify j (fun e => { e with key := key }) = es := by
        apply Array.ext'
        rw [Array.toList_modify, modify_eq_set _ _ _ _ h2]
        have : ({ e0 with key := key } : MapEntry) = e0 := by rw [← h3]
        rw [this]
        exact Go.WideElems.set_self _ _ _ h2
      have r1 : (Instr.mapEntry t (.map (some b)) key).run P w = .ok (.tuple #[e0.val, goInt e0.born]) (setBlock w b (.map es clock)) := by
        simp [Instr.mapEntry, run_underlying ht, MapKept.run_getObj_map hb, KL.check w false hkey, h1, hj, h3, KL.stays w hkey, hsame, MapKept.run_setObj_map _ hb, Result.andThen, setBlock]
      have r1 := ok_world (hme.symm.trans r1)
      rw [r1, setBlock_self hb]
      exact hlook
  · obtain ⟨es', clock', s1, s2⟩ := hst _ (.int .i64 val) hb1
    rw [setBlock_twice] at s1
    obtain ⟨w', q1, q2, _⟩ := h0.update K ht hn hkey (plainElem_int he hwv)
    have q1 := ok_world (s2.symm.trans q1)
    rw [← q1] at q2
    refine ⟨_, s1, q2, ?_⟩
    have hg : (setBlock w b (.map es1 clock1)).grownBy (setBlock (setBlock w b (.map es1 clock1)) b (.map es' clock')) (some b) := ⟨rfl, rfl, rfl, by simp [setBlock], fun i _ hi => heap_setBlock_other hb1 _ (fun e => hi (by rw [e]))⟩
    rw [setBlock_twice] at hg
    exact hg
end Go.Proofs.Ytmghkonmfbpjcaa
