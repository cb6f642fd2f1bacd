/- RunK; PgM; TEq; PgK; RunM: merged texts. -/
import Derived.Test.YtmghkonmfbpjcabJC
import Derived.Test.YtmghkonmfbpjcabOps
import Derived.Test.YtmghkonmfbpjcabTRow
import Derived.Maps.OwnSet
import Derived.Maps.OwnOps
import Derived.WideKeyEntry
import Derived.DeepKeys4
import Derived.Laws.StructEq
import Derived.Test.YtmghkonmfbpjcabJA
import Derived.Deep.RegionHeld3
import Derived.Deep.DeepCutAuto
/- What a term comes to: the reference's Reckon; which of two terms comes first: the reference's above. -/
namespace Go.Proofs.Ytmghkonmfbpjcab
set_option linter.unusedVariables false
set_option linter.unusedSimpArgs false
open Go.RowKit
set_option maxHeartbeats 2000000

end Go.Proofs.Ytmghkonmfbpjcab

/- m[k]++ on a map of the call's own, keyed by a struct: the two orders of its operations. No program in sight. -/
namespace Go.Proofs.Ytmghkonmfbpjcab
set_option linter.unusedVariables false
set_option linter.unusedSimpArgs false
open Go.RowKit Go.Maps Go.ChangeMaps
open Go.WideMaps (KeyLaw)

theorem setBlock_self {w : World} {b : Nat} {o : Obj} (h : w.heap[b]? = some o) : setBlock w b o = w := by
  have he : w.heap.setIfInBounds b o = w.heap := by
    apply Array.ext_getElem?
    intro i
    rw [Array.getElem?_setIfInBounds]
    split
    · rename_i hi
      subst hi
      split
      · exact h.symm
      · rename_i hlt
        rw [Array.getElem?_eq_none (by omega)] at h
        cases h
    · rfl
  unfold setBlock
  rw [he]
theorem setBlock_twice (w : World) (b : Nat) (o o' : Obj) : setBlock (setBlock w b o) b o' = setBlock w b o' := by
  unfold setBlock
  simp
theorem goInt_inj {a b : Nat} (h : goInt a = goInt b) : a = b := by
  unfold goInt at h
  injection h with _ h
  omega
theorem vint_inj {k : IntKind} {a b : Int} (h : Value.int k a = .int k b) : a = b := by injection h
theorem lint_inj {H : Type} {k : IntKind} {a b : Int} (h : (DataW.lit (.int k a) : DataW H) = .lit (.int k b)) : a = b := by injection h with h; injection h
theorem ok_world {α : Type} {a b : α} {w w' : World} (h : (Result.ok a w : Result α) = .ok b w') : w = w' := by cases h; rfl
theorem ok_val {α : Type} {a b : α} {w w' : World} (h : (Result.ok a w : Result α) = .ok b w') : a = b := by cases h; rfl
theorem map_bump {P : Program} {H : Type} {w : World} {t k e : TypeId} {b n : Nat} {D : DataW H} (KL : KeyLaw P k) (ht : P.underlying t = some (.map k e)) (he : P.underlying e = some (.int .i64))
    (hz : ∀ u : World, (zeroValue e).run P u = .ok (.int .i64 0) u) (h : w.ownsMap P k (plainElem P e) b n D) (hn : n < maxLen) {key : Value} {kl : Lit} (hkey : keyOf P k key = some kl) :
    ∃ c, (Instr.lookup t (.map (some b)) key false).run P w = .ok (.int .i64 c) w ∧ D.atKey kl (.lit (.int .i64 0)) = .lit (.int .i64 c) ∧
      ∃ v0 st w1, (Instr.mapEntry t (.map (some b)) key).run P w = .ok (.tuple #[v0, goInt st]) w1 ∧ w.grownBy w1 (some b) ∧ (Instr.lookup t (.map (some b)) key false).run P w1 = .ok (.int .i64 c) w1 ∧
        ∀ val, (Lit.int .i64 val).wf = true → ∃ w3, (Instr.entryStore t (.map (some b)) (goInt st) (.int .i64 val)).run P w1 = .ok () w3 ∧ w3.ownsMap P k (plainElem P e) b (n + 1) (D.put kl (.lit (.int .i64 val))) ∧ w1.grownBy w3 (some b) := by
  have K : Keyed P k := Keyed.of_law KL
  have h0 := h
  obtain ⟨c, hlook, hat, hwc⟩ := h.lookup_int K ht he (hz w) hkey
  obtain ⟨es, clock, hb, F, hs, hD⟩ := h
  obtain ⟨v0, st, es1, clock1, hme, _, hst⟩ := Go.WideElems.entry_then_store KL ht hz hb F hkey
  have hb1 : (setBlock w b (.map es1 clock1)).heap[b]? = some (.map es1 clock1) := heap_setBlock_same hb _
  refine ⟨c, hlook, hat, v0, st, _, hme, ⟨rfl, rfl, rfl, by simp [setBlock], fun i _ hi => heap_setBlock_other hb _ (fun e => hi (by rw [e]))⟩, ?_, fun val hwv => ?_⟩
  · rcases KL.find w hkey es.toList F.keys with ⟨h1, h2⟩ | ⟨j, e0, h1, h2, h3⟩
    · have r1 : (Instr.mapEntry t (.map (some b)) key).run P w = .ok (.tuple #[.int .i64 0, goInt clock]) (setBlock w b (.map (es.push ⟨key, .int .i64 0, clock⟩) (clock + 1))) := by
        simp [Instr.mapEntry, run_underlying ht, MapKept.run_getObj_map hb, KL.check w false hkey, h1, hz, MapKept.run_setObj_map _ hb, Result.andThen, setBlock]
      have r2 : (Instr.mapUpdate t (.map (some b)) key (.int .i64 0)).run P w = .ok () (setBlock w b (.map (es.push ⟨key, .int .i64 0, clock⟩) (clock + 1))) := by
        simp [Instr.mapUpdate, run_underlying ht, MapKept.run_getObj_map hb, KL.check w false hkey, h1, MapKept.run_setObj_map _ hb, Result.andThen, setBlock]
      have r1 := ok_world (hme.symm.trans r1)
      obtain ⟨w', q1, q2, _⟩ := h0.update K ht hn hkey (plainElem_int he (show (Lit.int .i64 0).wf = true by decide))
      have q1 := ok_world (r2.symm.trans q1)
      rw [← q1, ← r1] at q2
      obtain ⟨c1, p1, p2, _⟩ := q2.lookup_int K ht he (hz _) hkey
      rw [atKey_put_same h0.isMap (K.key hkey)] at p2
      have hl0 : (Instr.lookup t (.map (some b)) key false).run P w = .ok (.int .i64 0) w := by
        simp [Instr.lookup, run_underlying ht, MapKept.run_getObj_map hb, KL.check w _ hkey, h1, hz, Result.andThen]
      have hl0 := ok_val (hlook.symm.trans hl0)
      have hl0 := vint_inj hl0
      have p2 := lint_inj p2
      rw [p1, hl0, ← p2]
    · have hj : es[j]? = some e0 := by simpa using h2
      have hsame : es.modify j (fun e => { e with key := key }) = es := by
        apply Array.ext'
        rw [Array.toList_modify, modify_eq_set _ _ _ _ h2]
        have : ({ e0 with key := key } : MapEntry) = e0 := by rw [← h3]
        rw [this]
        exact Go.WideElems.set_self _ _ _ h2
      have r1 : (Instr.mapEntry t (.map (some b)) key).run P w = .ok (.tuple #[e0.val, goInt e0.born]) (setBlock w b (.map es clock)) := by
        simp [Instr.mapEntry, run_underlying ht, MapKept.run_getObj_map hb, KL.check w false hkey, h1, hj, h3, KL.stays w hkey, hsame, MapKept.run_setObj_map _ hb, Result.andThen, setBlock]
      have r1 := ok_world (hme.symm.trans r1)
      rw [r1, setBlock_self hb]
      exact hlook
  · obtain ⟨es', clock', s1, s2⟩ := hst _ (.int .i64 val) hb1
    rw [setBlock_twice] at s1
    obtain ⟨w', q1, q2, _⟩ := h0.update K ht hn hkey (plainElem_int he hwv)
    have q1 := ok_world (s2.symm.trans q1)
    rw [← q1] at q2
    refine ⟨_, s1, q2, ?_⟩
    have hg : (setBlock w b (.map es1 clock1)).grownBy (setBlock (setBlock w b (.map es1 clock1)) b (.map es' clock')) (some b) := ⟨rfl, rfl, rfl, by simp [setBlock], fun i _ hi => heap_setBlock_other hb1 _ (fun e => hi (by rw [e]))⟩
    rw [setBlock_twice] at hg
    exact hg
end Go.Proofs.Ytmghkonmfbpjcab

/- Whether two terms are the same, as the program asks it. -/
namespace Go.Proofs.Ytmghkonmfbpjcab
set_option linter.unusedVariables false
set_option linter.unusedSimpArgs false
open Go.RowKit
set_option maxHeartbeats 4000000

def Tm.val (n : Tm) : Value := .agg #[.int .i64 n.op, .int .i64 n.a, .int .i64 n.b]
theorem run_eq_term (x y : Tm) (w : World) : (Op.equalIn 10000 42 x.val y.val).run Try.prog w = .ok (x == y) w := by
  have u3 := Try.underlying3
  have a3 : ∀ w, (isAgg 3).run Try.prog w = .ok false w := fun w => by kernel_rfl
  have z3 : ∀ w, (sizeOf 3).run Try.prog w = .ok 1 w := fun w => by kernel_rfl
  have hS : Try.prog.underlying 42 = some (.struct (Try.prog.fieldsOf 42)) := by kernel_rfl
  have hp : Try.prog.stoodInHeld 42 = false := by kernel_rfl
  obtain ⟨x0, x1, x2⟩ := x
  obtain ⟨y0, y1, y2⟩ := y
  simp only [Tm.val]
  rw [show (10000 : Nat) = 9999 + 1 from rfl, run_equalIn_agg w 9999 42 _ _ hS hp]
  simp only [Program.fieldsOf, Try.underlying42]
  go_simp
  have hb : ((⟨x0, x1, x2⟩ : Tm) == ⟨y0, y1, y2⟩) = (x0 == y0 && (x1 == y1 && x2 == y2)) := by
    rw [Bool.eq_iff_iff]
    simp
  rw [hb]
  by_cases h0 : x0 = y0 <;> by_cases h1 : x1 = y1 <;> by_cases h2 : x2 = y2 <;> simp [h0, h1, h2]
theorem guardTerm : Try.prog.eqGuardType Try.prog.depth 42 = false := by kernel_rfl
theorem infoTerm : (Try.prog.info? 42).map (fun i => (i.zero, i.size, i.bytes)) = some (some (.agg #[.int .i64 0, .int .i64 0, .int .i64 0]), 3, 24) := by kernel_rfl

theorem contains_snoc (a : List Tm) (y t : Tm) : (a ++ [y]).contains t = (a.contains t || (y == t)) := by
  rw [Bool.eq_iff_iff]
  simp only [List.contains_iff_mem, List.mem_append, List.mem_singleton, Bool.or_eq_true, beq_iff_eq]
  exact or_congr_right eq_comm
end Go.Proofs.Ytmghkonmfbpjcab

/- prog.Terms. -/
namespace Go.Proofs.Ytmghkonmfbpjcab
set_option linter.unusedVariables false
set_option linter.unusedSimpArgs false
open Go.RowKit
open Go.Maps
set_option maxHeartbeats 4000000
attribute [local irreducible] Row TRow madeCells

theorem laidOutP : laidOutB Try.prog = true := by kernel_rfl
theorem cellsTerm : Try.prog.cellsOf 42 = 3 := by kernel_rfl
theorem cellsInt : Try.prog.cellsOf 3 = 1 := by kernel_rfl
theorem wideTerm : (match Try.prog.underlying 42 with | some (.array _ _) | some (.struct _) => true | _ => false) = true := by rw [Try.underlying42]
theorem rowTerm : 42 < Try.prog.types.size := of_decide_eq_true (by kernel_rfl)
theorem deepTerm : Try.prog.keyTypeAt 2 42 = true := by kernel_rfl
theorem law_of {P : Program} {k : TypeId} (hl : laidOutB P = true) (hr : k < P.types.size) (hd : P.keyTypeAt 2 k = true) (hw : (match P.underlying k with | some (.array _ _) | some (.struct _) => true | _ => false) = true) : Go.WideMaps.KeyLaw P k := deep_law_laid hl (m := 2) (by omega) hr hd hw
theorem lawTerm : Go.WideMaps.KeyLaw Try.prog 42 := law_of laidOutP rowTerm deepTerm wideTerm
theorem keyTerm (t : Tm) (h0 : (Lit.int .i64 t.op).wf = true) (h1 : (Lit.int .i64 t.a).wf = true) (h2 : (Lit.int .i64 t.b).wf = true) : ∃ l, keyOf Try.prog 42 t.val = some l := by
  obtain ⟨s, hs⟩ : ∃ s, Try.prog.types.size + 1 = s + 2 := ⟨Try.prog.types.size - 1, by kernel_rfl⟩
  have hk : Try.prog.keyType 42 = true := by kernel_rfl
  have hf : t.val.formed Try.prog 42 = true := by simp [Value.formed, Tm.val, Try.underlying42, cellsTerm]
  have hl : Try.prog.keyLits (Try.prog.types.size + 1) 42 t.val.cells.toList = some [.int .i64 t.op, .int .i64 t.a, .int .i64 t.b] := by
    rw [hs]
    simp [Program.keyLits, Try.underlying42, Try.underlying3, cellsTerm, cellsInt, Tm.val, Value.cells, h0, h1, h2]
  refine ⟨.string (keyBytes [.int .i64 t.op, .int .i64 t.a, .int .i64 t.b]), ?_⟩
  unfold keyOf
  rw [Try.underlying42]
  show (if (Try.prog.keyType 42 && t.val.formed Try.prog 42) = true then (Try.prog.keyLits (Try.prog.types.size + 1) 42 t.val.cells.toList).map fun ls => Lit.string (keyBytes ls) else none) = _
  rw [hk, hf, hl]
  rfl
theorem zero47 (w : World) : (zeroValue 3).run Try.prog w = .ok (.int .i64 0) w := by kernel_rfl
/-- the map of the terms that have been met: how often -/
def TSeen (W : World) (g n : Nat) (ts : List Tm) : Prop :=
  ∃ D : DataW Unit, W.ownsMap Try.prog 42 (plainElem Try.prog 3) g n D ∧ ∀ (t : Tm) (l : Lit), keyOf Try.prog 42 t.val = some l → ∃ c : Nat, D.atKey l (.lit (.int .i64 0)) = .lit (.int .i64 c) ∧ c ≤ n ∧ (c = 0 ↔ ts.contains t = false)
theorem TSeen.own {W W' : World} {g n : Nat} {ts : List Tm} {row : Option Nat} (h : TSeen W g n ts) (hg : W.grownBy W' row) (hr : row ≠ some g) : TSeen W' g n ts := by
  obtain ⟨D, h1, h2⟩ := h
  exact ⟨D, h1.kept hg (Ne.symm hr), h2⟩
theorem TSeen.below {W W' : World} {g n : Nat} {ts : List Tm} (h : TSeen W g n ts) (hb : Below W.heap.size W W') : TSeen W' g n ts := by
  obtain ⟨D, ⟨es, clock, hh, F, r⟩, h2⟩ := h
  exact ⟨D, ⟨es, clock, (hb.block g (lt_of_heap hh)).trans hh, F, r⟩, h2⟩
theorem TSeen.drew {W : World} {g n : Nat} {ts : List Tm} (h : TSeen W g n ts) : TSeen W.drew g n ts := h
theorem TSeen.drewN {W : World} {g n : Nat} {ts : List Tm} (h : TSeen W g n ts) (d : Nat) : TSeen (W.drewN d) g n ts := h
theorem TSeen.mono {W : World} {g n n' : Nat} {ts : List Tm} (h : TSeen W g n ts) (hn : n ≤ n') : TSeen W g n' ts := by
  obtain ⟨D, h1, h2⟩ := h
  refine ⟨D, h1.mono hn, fun t l hl => ?_⟩
  obtain ⟨c, e1, e2, e3⟩ := h2 t l hl
  exact ⟨c, e1, by omega, e3⟩
theorem TSeen.ne_row {W : World} {B g n : Nat} {ts us : List Tm} {e : TypeId} {v : Value} (h : TSeen W g n ts) (hr : TRow W B e v us) : v.ownBlock ≠ some g := by
  obtain ⟨D, ⟨es, clock, hh, F, r⟩, h2⟩ := h
  rcases hr.open with ⟨rfl, _⟩ | ⟨g', cap, cur, rfl, _, hh', _⟩
  · simp [Value.ownBlock]
  · intro he
    simp [Value.ownBlock] at he
    subst he
    rw [hh] at hh'
    cases hh'
theorem TSeen.lt {W : World} {g n : Nat} {ts : List Tm} (h : TSeen W g n ts) : g < W.heap.size := by
  obtain ⟨D, h1, h2⟩ := h
  exact h1.lt
theorem tm_inj {t t' : Tm} (h : t.val = t'.val) : t = t' := by
  cases t
  cases t'
  simp [Tm.val] at h
  simp [h]
/-- one more of t -/
theorem TSeen.bump {W : World} {g n : Nat} {ts : List Tm} (h : TSeen W g n ts) (hn : n < 1000) {t : Tm} {l : Lit} (hl : keyOf Try.prog 42 t.val = some l) :
    ∃ c : Nat, (Instr.lookup 70 (.map (some g)) t.val false).run Try.prog W = .ok (.int .i64 c) W ∧ c ≤ n ∧ (c = 0 ↔ ts.contains t = false) ∧
      ∃ v0 st w1, (Instr.mapEntry 70 (.map (some g)) t.val).run Try.prog W = .ok (.tuple #[v0, goInt st]) w1 ∧ W.grownBy w1 (some g) ∧ (Instr.lookup 70 (.map (some g)) t.val false).run Try.prog w1 = .ok (.int .i64 c) w1 ∧
        ∃ w3, (Instr.entryStore 70 (.map (some g)) (goInt st) (.int .i64 ((c : Int) + 1))).run Try.prog w1 = .ok () w3 ∧ w1.grownBy w3 (some g) ∧ TSeen w3 g (n + 1) (if ts.contains t then ts else ts ++ [t]) ∧
          (Instr.lookup 70 (.map (some g)) t.val false).run Try.prog w3 = .ok (.int .i64 ((c : Int) + 1)) w3 := by
  obtain ⟨D, hD, hc⟩ := h
  obtain ⟨c, e1, e2, e3⟩ := hc t l hl
  have hmax : n < maxLen := by unfold maxLen; omega
  obtain ⟨c', p1, p2, v0, st, w1, p3, p4, p5, p6⟩ := map_bump lawTerm Try.underlying70 Try.underlying3 zero47 hD hmax hl
  rw [e1] at p2
  have hcc := lint_inj p2
  subst hcc
  have hwf : (Lit.int .i64 ((c : Int) + 1)).wf = true := by
    unfold Lit.wf
    rw [Bool.and_eq_true]
    exact ⟨decide_eq_true (by show (-9223372036854775808 : Int) ≤ _; omega), decide_eq_true (by show _ ≤ (9223372036854775807 : Int); omega)⟩
  obtain ⟨w3, q1, q2, q3⟩ := p6 _ hwf
  obtain ⟨c3, r1, r2, _⟩ := q2.lookup_int (Keyed.of_law lawTerm) Try.underlying70 Try.underlying3 (zero47 _) hl
  rw [atKey_put_same hD.isMap ((Keyed.of_law lawTerm).key hl)] at r2
  have h3 := lint_inj r2
  subst h3
  refine ⟨c, p1, e2, e3, v0, st, w1, p3, p4, p5, w3, q1, q3, ⟨_, q2, fun t' l' hl' => ?_⟩, r1⟩
  by_cases htt : t' = t
  · subst htt
    rw [hl] at hl'
    injection hl' with hl'
    subst hl'
    refine ⟨c + 1, by rw [atKey_put_same hD.isMap ((Keyed.of_law lawTerm).key hl)]; rfl, by omega, ?_⟩
    constructor
    · intro h; omega
    · intro h
      exfalso
      by_cases hct : ts.contains t' = true
      · rw [if_pos hct, hct] at h; cases h
      · rw [if_neg hct, contains_snoc] at h
        simp at h
  · have hne : l' ≠ l := fun e => htt (by
      exact tm_inj (lawTerm.inj (e ▸ hl') hl))
    obtain ⟨c', f1, f2, f3⟩ := hc t' l' hl'
    refine ⟨c', by rw [atKey_put_other hne]; exact f1, by omega, ?_⟩
    rw [f3]
    split
    · rfl
    · rw [contains_snoc]
      have : (t == t') = false := by simpa using Ne.symm htt
      rw [this, Bool.or_false]
theorem TSeen.start {W : World} : TSeen (W.alloc (.map #[] 0)) W.heap.size 0 [] :=
  ⟨.map [], World.ownsMap_made _ _ _ _, fun t l hl => ⟨0, rfl, Nat.le_refl _, by simp⟩⟩
end Go.Proofs.Ytmghkonmfbpjcab

/- The machine that runs a program: how it lies; the map of the counts. -/
namespace Go.Proofs.Ytmghkonmfbpjcab
set_option linter.unusedVariables false
set_option linter.unusedSimpArgs false
open Go.RowKit
open Go.Maps
set_option maxHeartbeats 4000000

/-- the map of the counts of the terms in a list -/
def TCount (W : World) (g : Nat) (ts : List Tm) : Prop :=
  ∃ D : DataW Unit, W.ownsMap Try.prog 42 (plainElem Try.prog 3) g ts.length D ∧ (∀ (t : Tm) (l : Lit), keyOf Try.prog 42 t.val = some l → D.atKey l (.lit (.int .i64 0)) = .lit (.int .i64 (ts.count t)))
    ∧ (∀ l, Maps.has D l = true → ∃ t ∈ ts, keyOf Try.prog 42 t.val = some l) ∧ (∀ t ∈ ts, ∀ l, keyOf Try.prog 42 t.val = some l → Maps.has D l = true)
section
variable {W W' : World} {g : Nat} {ts : List Tm}
theorem TCount.own {row : Option Nat} (h : TCount W g ts) (hg : W.grownBy W' row) (hr : row ≠ some g) : TCount W' g ts := by
  obtain ⟨D, h1, h2⟩ := h
  exact ⟨D, h1.kept hg (Ne.symm hr), h2⟩
theorem TCount.below (h : TCount W g ts) (hb : Below W.heap.size W W') : TCount W' g ts := by
  obtain ⟨D, ⟨es, clock, hh, F, r⟩, h2⟩ := h
  exact ⟨D, ⟨es, clock, (hb.block g (lt_of_heap hh)).trans hh, F, r⟩, h2⟩
theorem TCount.drew (h : TCount W g ts) : TCount W.drew g ts := h
theorem TCount.drewN (h : TCount W g ts) (d : Nat) : TCount (W.drewN d) g ts := h
theorem TCount.set (h : TCount W g ts) {p : Addr} (hp : g ≠ p.block) (u : Value) : TCount (W.setCell p u) g ts := by
  obtain ⟨D, h1, h2⟩ := h
  exact ⟨D, h1.setCell hp u, h2⟩
theorem TCount.lt (h : TCount W g ts) : g < W.heap.size := by
  obtain ⟨D, h1, h2⟩ := h
  exact h1.lt
theorem TCount.ne_row {B : Nat} {e : TypeId} {v : Value} {xs : List Value} (h : TCount W g ts) (hr : Row W B e v xs) : v.ownBlock ≠ some g := by
  obtain ⟨D, ⟨es, clock, hh, F, r⟩, h2⟩ := h
  rcases hr with ⟨rfl, _⟩ | ⟨g', o, cap, cur, rfl, _, hh', _⟩
  · simp [Value.ownBlock]
  · intro he
    simp [Value.ownBlock] at he
    subst he
    rw [hh] at hh'
    cases hh'
theorem TCount.ne_blk {b : Nat} {t : TypeId} {cs : Array Value} (h : TCount W g ts) (hb : Blk W b t cs) : ¬ (b = g) := by
  obtain ⟨D, ⟨es, clock, hh, F, r⟩, h2⟩ := h
  intro e
  subst e
  unfold Blk at hb
  rw [hh] at hb
  cases hb
theorem TCount.start : TCount (W.alloc (.map #[] 0)) W.heap.size [] :=
  ⟨.map [], World.ownsMap_made _ _ _ _, fun t l hl => rfl, fun l h => (by cases h), fun t ht => (by cases ht)⟩
/-- one more of t -/
theorem TCount.bump (h : TCount W g ts) (hn : ts.length < 1000000) {t : Tm} {l : Lit} (hl : keyOf Try.prog 42 t.val = some l) :
    (Instr.lookup 70 (.map (some g)) t.val false).run Try.prog W = .ok (.int .i64 (ts.count t)) W ∧
      ∃ v0 st w1, (Instr.mapEntry 70 (.map (some g)) t.val).run Try.prog W = .ok (.tuple #[v0, goInt st]) w1 ∧ W.grownBy w1 (some g) ∧ (Instr.lookup 70 (.map (some g)) t.val false).run Try.prog w1 = .ok (.int .i64 (ts.count t)) w1 ∧
        ∃ w3, (Instr.entryStore 70 (.map (some g)) (goInt st) (.int .i64 ((ts.count t : Int) + 1))).run Try.prog w1 = .ok () w3 ∧ w1.grownBy w3 (some g) ∧ TCount w3 g (ts ++ [t]) := by
  obtain ⟨D, hD, hc, hh1, hh2⟩ := h
  have e1 := hc t l hl
  have hcl : ts.count t ≤ ts.length := List.count_le_length
  have hmax : ts.length < maxLen := by unfold maxLen; omega
  obtain ⟨c', p1, p2, v0, st, w1, p3, p4, p5, p6⟩ := map_bump lawTerm Try.underlying70 Try.underlying3 zero47 hD hmax hl
  rw [e1] at p2
  have hcc := lint_inj p2
  rw [← hcc] at p1 p5
  have hwf : (Lit.int .i64 ((ts.count t : Int) + 1)).wf = true := by
    unfold Lit.wf
    rw [Bool.and_eq_true]
    exact ⟨decide_eq_true (by show (-9223372036854775808 : Int) ≤ _; omega), decide_eq_true (by show _ ≤ (9223372036854775807 : Int); omega)⟩
  obtain ⟨w3, q1, q2, q3⟩ := p6 _ hwf
  refine ⟨p1, v0, st, w1, p3, p4, p5, w3, q1, q3, ⟨_, by rw [List.length_append]; exact q2, fun t' l' hl' => ?_, fun l' h => ?_, fun t' ht l' hl' => ?_⟩⟩
  · by_cases htt : t' = t
    · subst htt
      rw [hl] at hl'
      have hl' := Option.some.inj hl'
      subst hl'
      rw [atKey_put_same hD.isMap ((Keyed.of_law lawTerm).key hl)]
      simp [List.count_append]
    · have hne : l' ≠ l := fun e => htt (tm_inj (lawTerm.inj (e ▸ hl') hl))
      rw [atKey_put_other hne, hc t' l' hl']
      have : (t == t') = false := by simpa using Ne.symm htt
      simp [List.count_append, List.count_singleton, this]
  · by_cases hll : l' = l
    · exact ⟨t, by simp, by rw [hll]; exact hl⟩
    · rw [has_put_other hll] at h
      obtain ⟨u, hu, hk⟩ := hh1 l' h
      exact ⟨u, by simp [hu], hk⟩
  · by_cases hll : l' = l
    · rw [hll]
      exact has_put_same hD.isMap ((Keyed.of_law lawTerm).key hl) _
    · rw [has_put_other hll]
      rcases List.mem_append.1 ht with e | e
      · exact hh2 t' e l' hl'
      · simp at e
        subst e
        rw [hl] at hl'
        have hl' := Option.some.inj hl'
        exact absurd hl'.symm hll
end

/-- the cells of the machine -/
abbrev mcells (regs : Int) (A : Option Addr) (l : List Nd) (cap : Nat) (Ai : Option Addr) (ci : Nat) (inp : List Int) (gr gm : Nat) (ov : Value) (s : Rn) : Array Value :=
  #[.int .i64 regs, .slice A l.length cap, .slice Ai (inp.length - s.read) ci, .slice (some ⟨gr, 0, none⟩) regs.toNat regs.toNat, .map (some gm), ov, .int .i64 s.ret, .bool s.ended, .int .i64 s.steps, .slice none 0 0]
structure MSt (w : World) (regs : Int) (A : Option Addr) (l : List Nd) (cap : Nat) (inp : List Int) (mb gr gm : Nat) (Ai : Option Addr) (ci : Nat) (ov : Value) (s : Rn) (W : World) : Prop where
  box : Blk W mb 72 (mcells regs A l cap Ai ci inp gr gm ov s)
  regs : Row W w.heap.size 3 (.slice (some ⟨gr, 0, none⟩) regs.toNat regs.toNat) (ints s.regs)
  out : Row W w.heap.size 3 ov (ints s.out)
  cnt : TCount W gm s.ts
  inv : ValsAt w Ai (ints (inp.drop s.read))
  icap : inp.length - s.read ≤ ci ∧ ci ≤ maxLen
  ne : ov.ownBlock ≠ some gr
  mlo : w.heap.size ≤ mb
  glo : w.heap.size ≤ gm
  below : Below w.heap.size w W
section
variable {w : World} {regs : Int} {A : Option Addr} {l : List Nd} {cap : Nat} {inp : List Int} {mb gr gm : Nat} {Ai : Option Addr} {ci : Nat} {ov : Value} {s : Rn} {W W' : World}
theorem MSt.later (h : MSt w regs A l cap inp mb gr gm Ai ci ov s W) (hb : Below W.heap.size W W') : MSt w regs A l cap inp mb gr gm Ai ci ov s W' :=
  ⟨h.box.below hb h.box.lt, h.regs.below' hb, h.out.below' hb, h.cnt.below hb, h.inv, h.icap, h.ne, h.mlo, h.glo, h.below.trans (hb.mono h.below.size)⟩
theorem MSt.counted (h : MSt w regs A l cap inp mb gr gm Ai ci ov s W) (hg : W.grownBy W' (some gm)) {ts : List Tm} (hc : TCount W' gm ts) : MSt w regs A l cap inp mb gr gm Ai ci ov { s with ts := ts } W' :=
  ⟨h.box.grown hg (by have := h.cnt.ne_blk h.box; simp; exact fun e => this e.symm), h.regs.kept hg (.inr (h.cnt.ne_row h.regs)), h.out.kept hg (.inr (h.cnt.ne_row h.out)), hc, h.inv, h.icap, h.ne, h.mlo, h.glo, h.below.grown hg h.below.size (fun q hq => by have := Option.some.inj hq; have := h.glo; omega)⟩
theorem MSt.ins (h : MSt w regs A l cap inp mb gr gm Ai ci ov s W) : ValsAt W Ai (ints (inp.drop s.read)) := h.inv.below h.below
end
end Go.Proofs.Ytmghkonmfbpjcab
