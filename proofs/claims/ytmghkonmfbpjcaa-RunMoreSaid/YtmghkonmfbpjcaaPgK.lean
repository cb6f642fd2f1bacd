/- prog.Terms. -/
import Derived.Test.YtmghkonmfbpjcaaPgM
import Derived.Test.YtmghkonmfbpjcaaTEq
import Derived.Test.YtmghkonmfbpjcaaWords
import Derived.Deep.RegionHeld3
import Derived.Deep.DeepCutAuto
namespace Go.Proofs.Ytmghkonmfbpjcaa
set_option linter.unusedVariables false
set_option linter.unusedSimpArgs false
open Go.RowKit
open Go.Maps
set_option maxHeartbeats 4000000
attribute [local irreducible] Row TRow madeCells

theorem laidOutP : laidOutB Try.prog = true := by kernel_rfl
theorem cellsTerm : Try.prog.cellsOf 47 = 3 := by kernel_rfl
theorem cellsInt : Try.prog.cellsOf 3 = 1 := by kernel_rfl
theorem wideTerm : (match Try.prog.underlying 47 with | some (.array _ _) | some (.struct _) => true | _ => false) = true := by rw [Try.underlying47]
theorem rowTerm : 47 < Try.prog.types.size := of_decide_eq_true (by kernel_rfl)
theorem deepTerm : Try.prog.keyTypeAt 2 47 = true := by kernel_rfl
theorem law_of {P : Program} {k : TypeId} (hl : laidOutB P = true) (hr : k < P.types.size) (hd : P.keyTypeAt 2 k = true) (hw : (match P.underlying k with | some (.array _ _) | some (.struct _) => true | _ => false) = true) : Go.WideMaps.KeyLaw P k := deep_law_laid hl (m := 2) (by omega) hr hd hw
theorem lawTerm : Go.WideMaps.KeyLaw Try.prog 47 := law_of laidOutP rowTerm deepTerm wideTerm
theorem keyTerm (t : Tm) (h0 : (Lit.int .i64 t.op).wf = true) (h1 : (Lit.int .i64 t.a).wf = true) (h2 : (Lit.int .i64 t.b).wf = true) : ∃ l, keyOf Try.prog 47 t.val = some l := by
  obtain ⟨s, hs⟩ : ∃ s, Try.prog.types.size + 1 = s + 2 := ⟨Try.prog.types.size - 1, by kernel_rfl⟩
  have hk : Try.prog.keyType 47 = true := by kernel_rfl
  have hf : t.val.formed Try.prog 47 = true := by simp [Value.formed, Tm.val, Try.underlying47, cellsTerm]
  have hl : Try.prog.keyLits (Try.prog.types.size + 1) 47 t.val.cells.toList = some [.int .i64 t.op, .int .i64 t.a, .int .i64 t.b] := by
    rw [hs]
    simp [Program.keyLits, Try.underlying47, Try.underlying3, cellsTerm, cellsInt, Tm.val, Value.cells, h0, h1, h2]
  refine ⟨.string (keyBytes [.int .i64 t.op, .int .i64 t.a, .int .i64 t.b]), ?_⟩
  unfold keyOf
  rw [Try.underlying47]
  show (if (Try.prog.keyType 47 && t.val.formed Try.prog 47) = true then (Try.prog.keyLits (Try.prog.types.size + 1) 47 t.val.cells.toList).map fun ls => Lit.string (keyBytes ls) else none) = _
  rw [hk, hf, hl]
  rfl
theorem zero47 (w : World) : (zeroValue 3).run Try.prog w = .ok (.int .i64 0) w := by kernel_rfl
/-- the map of the terms that have been met: how often -/
def TSeen (W : World) (g n : Nat) (ts : List Tm) : Prop :=
  ∃ D : DataW Unit, W.ownsMap Try.prog 47 (plainElem Try.prog 3) g n D ∧ ∀ (t : Tm) (l : Lit), keyOf Try.prog 47 t.val = some l → ∃ c : Nat, D.atKey l (.lit (.int .i64 0)) = .lit (.int .i64 c) ∧ c ≤ n ∧ (c = 0 ↔ ts.contains t = false)
theorem TSeen.own {W W' : World} {g n : Nat} {ts : List Tm} {row : Option Nat} (h : TSeen W g n ts) (hg : W.grownBy W' row) (hr : row ≠ some g) : TSeen W' g n ts := by
  obtain ⟨D, h1, h2⟩ := h
  exact ⟨D, h1.kept hg (Ne.symm hr), h2⟩
theorem TSeen.below {W W' : World} {g n : Nat} {ts : List Tm} (h : TSeen W g n ts) (hb : Below W.heap.size W W') : TSeen W' g n ts := by
  obtain ⟨D, ⟨es, clock, hh, F, r⟩, h2⟩ := h
  exact ⟨D, ⟨es, clock, (hb.block g (lt_of_heap hh)).trans hh, F, r⟩, h2⟩
theorem TSeen.drew {W : World} {g n : Nat} {ts : List Tm} (h : TSeen W g n ts) : TSeen W.drew g n ts := h
theorem TSeen.drewN {W : World} {g n : Nat} {ts : List Tm} (h : TSeen W g n ts) (d : Nat) : TSeen (W.drewN d) g n ts := h
theorem TSeen.mono {W : World} {g n n' : Nat} {ts : List Tm} (h : TSeen W g n ts) (hn : n ≤ n') : TSeen W g n' ts := by
  obtain ⟨D, h1, h2⟩ := h
  refine ⟨D, h1.mono hn, fun t l hl => ?_⟩
  obtain ⟨c, e1, e2, e3⟩ := h2 t l hl
  exact ⟨c, e1, by omega, e3⟩
theorem TSeen.ne_row {W : World} {B g n : Nat} {ts us : List Tm} {e : TypeId} {v : Value} (h : TSeen W g n ts) (hr : TRow W B e v us) : v.ownBlock ≠ some g := by
  obtain ⟨D, ⟨es, clock, hh, F, r⟩, h2⟩ := h
  rcases hr.open with ⟨rfl, _⟩ | ⟨g', cap, cur, rfl, _, hh', _⟩
  · simp [Value.ownBlock]
  · intro he
    simp [Value.ownBlock] at he
    subst he
    rw [hh] at hh'
    cases hh'
theorem TSeen.lt {W : World} {g n : Nat} {ts : List Tm} (h : TSeen W g n ts) : g < W.heap.size := by
  obtain ⟨D, h1, h2⟩ := h
  exact h1.lt
theorem tm_inj {t t' : Tm} (h : t.val = t'.val) : t = t' := by
  cases t
  cases t'
  simp [Tm.val] at h
  simp [h]
/-- one more of t -/
theorem TSeen.bump {W : World} {g n : Nat} {ts : List Tm} (h : TSeen W g n ts) (hn : n < 1000) {t : Tm} {l : Lit} (hl : keyOf Try.prog 47 t.val = some l) :
    ∃ c : Nat, (Instr.lookup 109 (.map (some g)) t.val false).run Try.prog W = .ok (.int .i64 c) W ∧ c ≤ n ∧ (c = 0 ↔ ts.contains t = false) ∧
      ∃ v0 st w1, (Instr.mapEntry 109 (.map (some g)) t.val).run Try.prog W = .ok (.tuple #[v0, goInt st]) w1 ∧ W.grownBy w1 (some g) ∧ (Instr.lookup 109 (.map (some g)) t.val false).run Try.prog w1 = .ok (.int .i64 c) w1 ∧
        ∃ w3, (Instr.entryStore 109 (.map (some g)) (goInt st) (.int .i64 ((c : Int) + 1))).run Try.prog w1 = .ok () w3 ∧ w1.grownBy w3 (some g) ∧ TSeen w3 g (n + 1) (if ts.contains t then ts else ts ++ [t]) ∧
          (Instr.lookup 109 (.map (some g)) t.val false).run Try.prog w3 = .ok (.int .i64 ((c : Int) + 1)) w3 := by
  obtain ⟨D, hD, hc⟩ := h
  obtain ⟨c, e1, e2, e3⟩ := hc t l hl
  have hmax : n < maxLen := by unfold maxLen; omega
  obtain ⟨c', p1, p2, v0, st, w1, p3, p4, p5, p6⟩ := map_bump lawTerm Try.underlying109 Try.underlying3 zero47 hD hmax hl
  rw [e1] at p2
  have hcc := lint_inj p2
  subst hcc
  have hwf : (Lit.int .i64 ((c : Int) + 1)).wf = true := by
    unfold Lit.wf
    rw [Bool.and_eq_true]
    exact ⟨decide_eq_true (by show (-9223372036854775808 : Int) ≤ _; omega), decide_eq_true (by show _ ≤ (9223372036854775807 : Int); omega)⟩
  obtain ⟨w3, q1, q2, q3⟩ := p6 _ hwf
  obtain ⟨c3, r1, r2, _⟩ := q2.lookup_int (Keyed.of_law lawTerm) Try.underlying109 Try.underlying3 (zero47 _) hl
  rw [atKey_put_same hD.isMap ((Keyed.of_law lawTerm).key hl)] at r2
  have h3 := lint_inj r2
  subst h3
  refine ⟨c, p1, e2, e3, v0, st, w1, p3, p4, p5, w3, q1, q3, ⟨_, q2, fun t' l' hl' => ?_⟩, r1⟩
  by_cases htt : t' = t
  · subst htt
    rw [hl] at hl'
    injection hl' with hl'
    subst hl'
    refine ⟨c + 1, by rw [atKey_put_same hD.isMap ((Keyed.of_law lawTerm).key hl)]; rfl, by omega, ?_⟩
    constructor
    · intro h; omega
    · intro h
      exfalso
      by_cases hct : ts.contains t' = true
      · rw [if_pos hct, hct] at h; cases h
      · rw [if_neg hct, contains_snoc] at h
        simp at h
  · have hne : l' ≠ l := fun e => htt (by
      exact tm_inj (lawTerm.inj (e ▸ hl') hl))
    obtain ⟨c', f1, f2, f3⟩ := hc t' l' hl'
    refine ⟨c', by rw [atKey_put_other hne]; exact f1, by omega, ?_⟩
    rw [f3]
    split
    · rfl
    · rw [contains_snoc]
      have : (t == t') = false := by simpa using Ne.symm htt
      rw [this, Bool.or_false]
theorem TSeen.start {W : World} : TSeen (W.alloc (.map #[] 0)) W.heap.size 0 [] :=
  ⟨.map [], World.ownsMap_made _ _ _ _, fun t l hl => ⟨0, rfl, Nat.le_refl _, by simp⟩⟩
end Go.Proofs.Ytmghkonmfbpjcaa
