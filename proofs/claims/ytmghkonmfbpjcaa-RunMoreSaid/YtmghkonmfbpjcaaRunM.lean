/- The machine that runs a program: how it lies; the map of the counts. -/
import Derived.Test.YtmghkonmfbpjcaaRunK
import Derived.Test.YtmghkonmfbpjcaaPgK
namespace Go.Proofs.Ytmghkonmfbpjcaa
set_option linter.unusedVariables false
set_option linter.unusedSimpArgs false
open Go.RowKit
open Go.Maps
set_option maxHeartbeats 4000000

/-- the map of the counts of the terms in a list -/
def TCount (W : World) (g : Nat) (ts : List Tm) : Prop :=
  ∃ D : DataW Unit, W.ownsMap Try.prog 47 (plainElem Try.prog 3) g ts.length D ∧ (∀ (t : Tm) (l : Lit), keyOf Try.prog 47 t.val = some l → D.atKey l (.lit (.int .i64 0)) = .lit (.int .i64 (ts.count t)))
    ∧ (∀ l, Maps.has D l = true → ∃ t ∈ ts, keyOf Try.prog 47 t.val = some l) ∧ (∀ t ∈ ts, ∀ l, keyOf Try.prog 47 t.val = some l → Maps.has D l = true)
section
variable {W W' : World} {g : Nat} {ts : List Tm}
theorem TCount.own {row : Option Nat} (h : TCount W g ts) (hg : W.grownBy W' row) (hr : row ≠ some g) : TCount W' g ts := by
  obtain ⟨D, h1, h2⟩ := h
  exact ⟨D, h1.kept hg (Ne.symm hr), h2⟩
theorem TCount.below (h : TCount W g ts) (hb : Below W.heap.size W W') : TCount W' g ts := by
  obtain ⟨D, ⟨es, clock, hh, F, r⟩, h2⟩ := h
  exact ⟨D, ⟨es, clock, (hb.block g (lt_of_heap hh)).trans hh, F, r⟩, h2⟩
theorem TCount.drew (h : TCount W g ts) : TCount W.drew g ts := h
theorem TCount.drewN (h : TCount W g ts) (d : Nat) : TCount (W.drewN d) g ts := h
theorem TCount.set (h : TCount W g ts) {p : Addr} (hp : g ≠ p.block) (u : Value) : TCount (W.setCell p u) g ts := by
  obtain ⟨D, h1, h2⟩ := h
  exact ⟨D, h1.setCell hp u, h2⟩
theorem TCount.lt (h : TCount W g ts) : g < W.heap.size := by
  obtain ⟨D, h1, h2⟩ := h
  exact h1.lt
theorem TCount.ne_row {B : Nat} {e : TypeId} {v : Value} {xs : List Value} (h : TCount W g ts) (hr : Row W B e v xs) : v.ownBlock ≠ some g := by
  obtain ⟨D, ⟨es, clock, hh, F, r⟩, h2⟩ := h
  rcases hr with ⟨rfl, _⟩ | ⟨g', o, cap, cur, rfl, _, hh', _⟩
  · simp [Value.ownBlock]
  · intro he
    simp [Value.ownBlock] at he
    subst he
    rw [hh] at hh'
    cases hh'
theorem TCount.ne_blk {b : Nat} {t : TypeId} {cs : Array Value} (h : TCount W g ts) (hb : Blk W b t cs) : ¬ (b = g) := by
  obtain ⟨D, ⟨es, clock, hh, F, r⟩, h2⟩ := h
  intro e
  subst e
  unfold Blk at hb
  rw [hh] at hb
  cases hb
theorem TCount.start : TCount (W.alloc (.map #[] 0)) W.heap.size [] :=
  ⟨.map [], World.ownsMap_made _ _ _ _, fun t l hl => rfl, fun l h => (by cases h), fun t ht => (by cases ht)⟩
/-- one more of t -/
theorem TCount.bump (h : TCount W g ts) (hn : ts.length < 1000000) {t : Tm} {l : Lit} (hl : keyOf Try.prog 47 t.val = some l) :
    (Instr.lookup 109 (.map (some g)) t.val false).run Try.prog W = .ok (.int .i64 (ts.count t)) W ∧
      ∃ v0 st w1, (Instr.mapEntry 109 (.map (some g)) t.val).run Try.prog W = .ok (.tuple #[v0, goInt st]) w1 ∧ W.grownBy w1 (some g) ∧ (Instr.lookup 109 (.map (some g)) t.val false).run Try.prog w1 = .ok (.int .i64 (ts.count t)) w1 ∧
        ∃ w3, (Instr.entryStore 109 (.map (some g)) (goInt st) (.int .i64 ((ts.count t : Int) + 1))).run Try.prog w1 = .ok () w3 ∧ w1.grownBy w3 (some g) ∧ TCount w3 g (ts ++ [t]) := by
  obtain ⟨D, hD, hc, hh1, hh2⟩ := h
  have e1 := hc t l hl
  have hcl : ts.count t ≤ ts.length := List.count_le_length
  have hmax : ts.length < maxLen := by unfold maxLen; omega
  obtain ⟨c', p1, p2, v0, st, w1, p3, p4, p5, p6⟩ := map_bump lawTerm Try.underlying109 Try.underlying3 zero47 hD hmax hl
  rw [e1] at p2
  have hcc := lint_inj p2
  rw [← hcc] at p1 p5
  have hwf : (Lit.int .i64 ((ts.count t : Int) + 1)).wf = true := by
    unfold Lit.wf
    rw [Bool.and_eq_true]
    exact ⟨decide_eq_true (by show (-9223372036854775808 : Int) ≤ _; omega), decide_eq_true (by show _ ≤ (9223372036854775807 : Int); omega)⟩
  obtain ⟨w3, q1, q2, q3⟩ := p6 _ hwf
  refine ⟨p1, v0, st, w1, p3, p4, p5, w3, q1, q3, ⟨_, by rw [List.length_append]; exact q2, fun t' l' hl' => ?_, fun l' h => ?_, fun t' ht l' hl' => ?_⟩⟩
  · by_cases htt : t' = t
    · subst htt
      rw [hl] at hl'
      have hl' := Option.some.inj hl'
      subst hl'
      rw [atKey_put_same hD.isMap ((Keyed.of_law lawTerm).key hl)]
      simp [List.count_append]
    · have hne : l' ≠ l := fun e => htt (tm_inj (lawTerm.inj (e ▸ hl') hl))
      rw [atKey_put_other hne, hc t' l' hl']
      have : (t == t') = false := by simpa using Ne.symm htt
      simp [List.count_append, List.count_singleton, this]
  · by_cases hll : l' = l
    · exact ⟨t, by simp, by rw [hll]; exact hl⟩
    · rw [has_put_other hll] at h
      obtain ⟨u, hu, hk⟩ := hh1 l' h
      exact ⟨u, by simp [hu], hk⟩
  · by_cases hll : l' = l
    · rw [hll]
      exact has_put_same hD.isMap ((Keyed.of_law lawTerm).key hl) _
    · rw [has_put_other hll]
      rcases List.mem_append.1 ht with e | e
      · exact hh2 t' e l' hl'
      · simp at e
        subst e
        rw [hl] at hl'
        have hl' := Option.some.inj hl'
        exact absurd hl'.symm hll
end

/-- the cells of the machine -/
abbrev mcells (regs : Int) (A : Option Addr) (l : List Nd) (cap : Nat) (Ai : Option Addr) (ci : Nat) (inp : List Int) (gr gm : Nat) (ov : Value) (s : Rn) : Array Value :=
  #[.int .i64 regs, .slice A l.length cap, .slice Ai (inp.length - s.read) ci, .slice (some ⟨gr, 0, none⟩) regs.toNat regs.toNat, .map (some gm), ov, .int .i64 s.ret, .bool s.ended, .int .i64 s.steps, .slice none 0 0]
structure MSt (w : World) (regs : Int) (A : Option Addr) (l : List Nd) (cap : Nat) (inp : List Int) (mb gr gm : Nat) (Ai : Option Addr) (ci : Nat) (ov : Value) (s : Rn) (W : World) : Prop where
  box : Blk W mb 120 (mcells regs A l cap Ai ci inp gr gm ov s)
  regs : Row W w.heap.size 3 (.slice (some ⟨gr, 0, none⟩) regs.toNat regs.toNat) (ints s.regs)
  out : Row W w.heap.size 3 ov (ints s.out)
  cnt : TCount W gm s.ts
  inv : ValsAt w Ai (ints (inp.drop s.read))
  icap : inp.length - s.read ≤ ci ∧ ci ≤ maxLen
  ne : ov.ownBlock ≠ some gr
  mlo : w.heap.size ≤ mb
  glo : w.heap.size ≤ gm
  below : Below w.heap.size w W
section
variable {w : World} {regs : Int} {A : Option Addr} {l : List Nd} {cap : Nat} {inp : List Int} {mb gr gm : Nat} {Ai : Option Addr} {ci : Nat} {ov : Value} {s : Rn} {W W' : World}
theorem MSt.later (h : MSt w regs A l cap inp mb gr gm Ai ci ov s W) (hb : Below W.heap.size W W') : MSt w regs A l cap inp mb gr gm Ai ci ov s W' :=
  ⟨h.box.below hb h.box.lt, h.regs.below' hb, h.out.below' hb, h.cnt.below hb, h.inv, h.icap, h.ne, h.mlo, h.glo, h.below.trans (hb.mono h.below.size)⟩
theorem MSt.counted (h : MSt w regs A l cap inp mb gr gm Ai ci ov s W) (hg : W.grownBy W' (some gm)) {ts : List Tm} (hc : TCount W' gm ts) : MSt w regs A l cap inp mb gr gm Ai ci ov { s with ts := ts } W' :=
  ⟨h.box.grown hg (by have := h.cnt.ne_blk h.box; simp; exact fun e => this e.symm), h.regs.kept hg (.inr (h.cnt.ne_row h.regs)), h.out.kept hg (.inr (h.cnt.ne_row h.out)), hc, h.inv, h.icap, h.ne, h.mlo, h.glo, h.below.grown hg h.below.size (fun q hq => by have := Option.some.inj hq; have := h.glo; omega)⟩
theorem MSt.ins (h : MSt w regs A l cap inp mb gr gm Ai ci ov s W) : ValsAt W Ai (ints (inp.drop s.read)) := h.inv.below h.below
end
end Go.Proofs.Ytmghkonmfbpjcaa
