/- graph.exits: the function that it hands back, and a loop over it: at most two rounds. -/
import Derived.RangeFuncNested
import Derived.RangeFuncBound
import Derived.RangeFuncCalls
import Derived.RangeFuncLeaves
import Derived.Shelf.Abstract
import Derived.Shelf.RegionOpen
import Derived.WalkKit
import Derived.OwnWalkIn
import Derived.TacticsInMore
import Derived.LoopNIn
import Derived.LoopIn
import Derived.Test.YtmghkonmfbpjcaaNode
import Derived.Test.YtmghkonmfbpjcaaProg
namespace Go.Proofs.Ytmghkonmfbpjcaa
set_option linter.unusedVariables false
set_option linter.unusedSimpArgs false
open Go.RowKit Go.Shelf
set_option maxHeartbeats 1000000
attribute [local go_sem] Oper.semAt_some

/-- how many ways lead out of a node -/
def exitN (op : Int) : Nat := if op = 12 then 0 else if op = 11 then 2 else 1

theorem exits_any (p : Option Addr) (w : World) : Calls Try.prog 58 #[.pointer p] w fun e w' => e = .returned (.func (.func 99) #[] #[.pointer (some ⟨w.heap.size, 0, none⟩)]) ∧ w' = w.alloc (.cells #[.pointer p] 94) := by
  go_enter Try.func58, Try.ntmps58
  go_wp2
  go_ret
  exact ⟨rfl, rfl⟩

set_option maxRecDepth 100000 in
/-- the iterator, whatever the loop's rounds do to the node's ways -/
theorem exits1_in (F : Fence) (n : Nat) (hf : F.fn 99) (hro : F.round = none) (hn : 1 ≤ n) (l gb b : Nat) (op : Int) (J : Nat → World → Prop)
    (hc : ∀ i W, J i W → W.cell? ⟨gb, 0, none⟩ = some (.pointer (some ⟨b, 0, none⟩)) ∧ W.cell? ⟨b, 0, none⟩ = some (.int .i64 op))
    (y0 : op ≠ 12 → ∀ W, J 0 W → YieldAt F (n - 1) Try.prog l #[.pointer (some ⟨b, 4, none⟩)] W fun e W' => e = .returned (.bool true) ∧ J 1 W')
    (y1 : op = 11 → ∀ W, J 1 W → YieldAt F (n - 1) Try.prog l #[.pointer (some ⟨b, 5, none⟩)] W fun e W' => e = .returned (.bool true) ∧ J 2 W')
    (W : World) (h0 : J 0 W) :
    CallsIn F n Try.prog 99 #[.func (.yield l) #[] #[], .pointer (some ⟨gb, 0, none⟩)] W fun e W' => (∃ v, e = .returned v) ∧ J (exitN op) W' := by
  have hJ := hc 0 W h0
  obtain ⟨c0, c1⟩ := hJ
  refine callsIn_of_wp Try.func99 rfl hf ?_ hro
  simp only [Try.ntmps99, List.size_toArray, List.length_cons, List.length_nil, Nat.reduceAdd, Nat.reduceSub, Array.replicate_succ, Array.replicate_zero, List.push_toArray, List.append_toArray, List.nil_append, List.cons_append]
  by_cases h12 : op = 12
  · have he : exitN op = 0 := by simp [exitN, h12]
    have He : Hid (exitN op = 0) := he
    clear he y0 y1 hc
    have q12 : (op == 12) = true := by simp [h12]
    clear h12
    gi_wp2
    refine ⟨fun _ h => (by cases h), ?_⟩
    gi_wp2
    refine bodyPost_ret (results_none rfl _ _ _) rfl ?_
    exact ⟨⟨_, rfl⟩, by rw [He.out]; exact h0⟩
  · have q12 : (op == 12) = false := by simp [h12]
    obtain ⟨fn, tmps, assign, body, hy, hR⟩ := y0 h12 W h0
    by_cases h11 : op = 11
    · have q11 : (op == 11) = true := by simp [h11]
      have he : exitN op = 2 := by simp [exitN, h11]
      have He : Hid (exitN op = 2) := he
      have Y1 : Hid (∀ W, J 1 W → YieldAt F (n - 1) Try.prog l #[.pointer (some ⟨b, 5, none⟩)] W fun e W' => e = .returned (.bool true) ∧ J 2 W') := y1 h11
      have Hc : Hid (∀ i W, J i W → W.cell? ⟨gb, 0, none⟩ = some (.pointer (some ⟨b, 0, none⟩)) ∧ W.cell? ⟨b, 0, none⟩ = some (.int .i64 op)) := hc
      clear he h12 h11 y0 y1 hc
      gi_wp2
      refine hR.mono ?_
      rintro e W1 ⟨rfl, hJ1⟩
      obtain ⟨d0, d1⟩ := Hc.out 1 W1 hJ1
      obtain ⟨fn', tmps', assign', body', hy', hR'⟩ := Y1.out W1 hJ1
      clear hy hR c0 c1
      gi_wp2
      refine hR'.mono ?_
      rintro e W2 ⟨rfl, hJ2⟩
      gi_wp2
      go_end0
      exact ⟨⟨_, rfl⟩, by rw [He.out]; exact hJ2⟩
    · have q11 : (op == 11) = false := by simp [h11]
      have he : exitN op = 1 := by simp [exitN, h12, h11]
      have He : Hid (exitN op = 1) := he
      have Hc : Hid (∀ i W, J i W → W.cell? ⟨gb, 0, none⟩ = some (.pointer (some ⟨b, 0, none⟩)) ∧ W.cell? ⟨b, 0, none⟩ = some (.int .i64 op)) := hc
      clear he h12 h11 y0 y1 hc
      gi_wp2
      refine hR.mono ?_
      rintro e W1 ⟨rfl, hJ1⟩
      obtain ⟨d0, d1⟩ := Hc.out 1 W1 hJ1
      clear hy hR c0 c1
      gi_wp2
      go_end0
      exact ⟨⟨_, rfl⟩, by rw [He.out]; exact hJ1⟩

/-- how the body of a round is left: it goes on -/
def roundEnd (B : Nat) (J : World → Prop) (W : World) : Exit → Act → World → Prop
  | .normal, _, W' => KeepsFrom B W W' ∧ J W'
  | _, _, _ => False

/-- a loop over the ways of the node that lies at block b -/
theorem wp_range_exits {g : Operand} {p : Tmp} {assign body : Code} {Q : Exit → Act → World → Prop} {a : Act} {w : World} (gb b : Nat) (op : Int)
    (hg : a.eval g = .func (.func 99) #[] #[.pointer (some ⟨gb, 0, none⟩)])
    (I : Nat → World → Prop) (hI : OwnFrom w.heap.size I)
    (hc : ∀ i W, I i W → W.cell? ⟨gb, 0, none⟩ = some (.pointer (some ⟨b, 0, none⟩)) ∧ W.cell? ⟨b, 0, none⟩ = some (.int .i64 op))
    (h0 : I 0 w)
    (hbody : ∀ (l i : Nat), (i = 0 ∧ op ≠ 12 ∨ i = 1 ∧ op = 11) → ∃ a₁ : Act, (∀ (W : World) (K : Act → World → Prop), K a₁ W → assign.wpIn (Fence.wide.inRound l) 2 Try.prog (Exit.then K (fun _ _ _ => False)) { tmps := a.tmps.setIfInBounds p (.pointer (some ⟨b, 4 + i, none⟩)), defers := [] } W) ∧
      ∀ W, I i W → body.wpIn (Fence.wide.inRound l) 2 Try.prog (roundEnd w.heap.size (I (i + 1)) W) a₁ W)
    (hdone : ∀ (D : Nat) (W : World), w.heap.size ≤ D → I (exitN op) W → W.heap[D]? = some (.deferred (some [])) → Q .normal { a with defers := { target := .collected D, args := #[] } :: a.defers } W) :
    (Code.rangeFunc g #[p] assign body).wp Try.prog Q a w := by
  refine (wpIn_wide (n := 4)).1 (wpIn_rangeFunc fun fn hfn => ?_)
  obtain ⟨mk, hmk⟩ : ∃ mk : LoopState → Option Code → Loop, mk = fun st pe => { state := st, pending := pe, fn, tmps := a.tmps, params := #[p], assign, body, defers := w.heap.size } := ⟨_, rfl⟩
  -- the world with the two blocks of the loop's own
  obtain ⟨V, hV⟩ : ∃ V, (w.alloc (.deferred (some []))).alloc (.loop (mk .ready none)) = V := ⟨_, rfl⟩
  have lV : V.heap[w.heap.size + 1]? = some (.loop (mk .ready none)) := by
    rw [← hV]; have := World.alloc_heap_new (w.alloc (.deferred (some []))) (.loop (mk .ready none)); rwa [World.size_alloc] at this
  have dV : V.heap[w.heap.size]? = some (.deferred (some [])) := by
    rw [← hV]; exact (Below.heap_alloc _ _ _ (by simp)).trans (World.alloc_heap_new w _)
  have iV : I 0 V := by rw [← hV]; exact hI.alloc _ (hI.alloc _ h0)
  -- what holds between two rounds
  let J : Nat → World → Prop := fun i W => I i W ∧ W.heap[w.heap.size + 1]? = some (.loop (mk .ready none)) ∧ W.heap[w.heap.size]? = some (.deferred (some []))
  have round : ∀ (i : Nat) (W : World), (i = 0 ∧ op ≠ 12 ∨ i = 1 ∧ op = 11) → J i W → YieldAt Fence.wide 2 Try.prog (w.heap.size + 1) #[.pointer (some ⟨b, 4 + i, none⟩)] W fun e W' => e = .returned (.bool true) ∧ J (i + 1) W' := by
    rintro i W hi ⟨hw, hl, hd⟩
    have hlt : w.heap.size + 1 < W.heap.size := (Array.getElem?_eq_some_iff.1 hl).1
    have hy := run_yield (P := Try.prog) (args := #[.pointer (some ⟨b, 4 + i, none⟩)]) hl (by rw [hmk]; rfl)
    rw [hmk] at hy
    have hy' : (Instr.yield (w.heap.size + 1) #[.pointer (some ⟨b, 4 + i, none⟩)]).run Try.prog W = .ok (.round (w.heap.size + 1) fn (a.tmps.setIfInBounds p (.pointer (some ⟨b, 4 + i, none⟩))) assign body) W := by
      have hz : ((#[p] : Array Tmp).zip (#[.pointer (some ⟨b, 4 + i, none⟩)] : Array Value)).foldl (fun tmps (t, v) => tmps.setIfInBounds t v) a.tmps = a.tmps.setIfInBounds p (.pointer (some ⟨b, 4 + i, none⟩)) := by simp
      rw [← hz]
      exact hy
    obtain ⟨a₁, hassign, hbd⟩ := hbody (w.heap.size + 1) i hi
    refine ⟨fn, _, assign, body, hy', roundIn_of_wpIn hfn (hassign W _ ⟨_, run_beginRound hl (by rw [hmk]), ?_⟩)⟩
    obtain ⟨W1, hW1⟩ : ∃ W1 : World, W1 = W.putObj (w.heap.size + 1) (.loop { mk .ready none with state := .busy }) := ⟨_, rfl⟩
    rw [← hW1]
    have hl1 : W1.heap[w.heap.size + 1]? = some (.loop { mk .ready none with state := .busy }) := by rw [hW1]; exact World.putObj_heap_same hlt
    have hd1 : W1.heap[w.heap.size]? = some (.deferred (some [])) := by rw [hW1]; exact (World.putObj_heap_other (by omega)).trans hd
    have hw1 : I i W1 := by rw [hW1]; exact hI.putObj _ hw (by omega) hl rfl
    refine wpIn_mono (hbd W1 hw1) ?_
    rintro e a3 W3 hp
    cases e with
    | normal =>
      obtain ⟨hk, hn⟩ := hp
      have hl3 := hk.same _ _ (by omega) hl1 rfl
      have hd3 := hk.same _ _ (Nat.le_refl _) hd1 rfl
      have hr := run_endRound (P := Try.prog) none hl3
      refine ⟨_, _, hr, rfl, hI.putObj _ hn (by omega) hl3 rfl, ?_, (World.putObj_heap_other (by omega)).trans hd3⟩
      rw [World.putObj_heap_same (Array.getElem?_eq_some_iff.1 hl3).1, hmk]
      rfl
    | ret => exact hp.elim
    | exit id => exact hp.elim
    | goto t => exact hp.elim
    | panic ch => exact hp.elim
    | outgrown => exact hp.elim
  refine ⟨w.heap.size + 1, [{ target := .collected w.heap.size, args := #[] }], V, { target := .fn (.func 99) #[.pointer (some ⟨gb, 0, none⟩)], args := #[.func (.yield (w.heap.size + 1)) #[] #[]] }, V, 99,
    #[.func (.yield (w.heap.size + 1)) #[] #[], .pointer (some ⟨gb, 0, none⟩)], V, ?_, ?_, fun _ _ => trivial, ?_, fun _ => by omega, ?_⟩
  · rw [← hV, hmk]; exact run_enterLoop_outer _ _ _ _ _
  · simp only [resolve, hg]
    simp [go_sem]
  · have he := enters_of Try.func99 (by kernel_rfl) rfl
    simp [invoke, go_sem, he]
  · refine (exits1_in Fence.wide 3 trivial rfl (by omega) (w.heap.size + 1) gb b op J (fun i W h => hc i W h.1) (fun h W hj => round 0 W (.inl ⟨rfl, h⟩) hj) (fun h W hj => round 1 W (.inr ⟨rfl, h⟩) hj) V (And.intro iV (And.intro lV dV))).mono ?_
    rintro e W2 ⟨⟨v, rfl⟩, hw, hl, hd⟩
    have hend := run_endLoop (P := Try.prog) hl (by rw [hmk]; simp)
    have hpe : (mk .ready none).pending = none := by rw [hmk]
    rw [hpe] at hend
    refine ⟨none, _, hend, ?_⟩
    exact hdone _ _ (Nat.le_refl _) (hI.putObj _ hw (by omega) hl rfl) ((World.putObj_heap_other (by omega)).trans hd)
end Go.Proofs.Ytmghkonmfbpjcaa
