/- A function that holds a loop over a function: the marks that such a loop leaves among the deferred calls. No program in sight. -/
import Derived.Test.YtmghkonmfbpjcabWork
import Derived.RangeFuncLeaves
import Derived.RangeFuncRecord
import Derived.Deep.LoopGhost
import Derived.OwnWalkIn
import Derived.OrdersIn
namespace Go.Proofs.Ytmghkonmfbpjcab
set_option linter.unusedVariables false
set_option linter.unusedSimpArgs false
open Go.RowKit

/-- marks, the newest first -/
def Marks (B : Nat) : Nat → List Deferred → World → Prop
  | _, [], _ => True
  | S, d :: ds, w => ∃ D, d = { target := .collected D, args := #[] } ∧ B ≤ D ∧ D < S ∧ w.heap[D]? = some (.deferred (some [])) ∧ Marks B D ds w
theorem Marks.mono {B : Nat} : ∀ {ds : List Deferred} {S S' : Nat} {w : World}, Marks B S ds w → S ≤ S' → Marks B S' ds w
  | [], _, _, _, _, _ => trivial
  | d :: ds, S, S', w, ⟨D, h1, h2, h3, h4, h5⟩, h => ⟨D, h1, h2, Nat.lt_of_lt_of_le h3 h, h4, h5⟩
theorem Marks.of_heap {B : Nat} : ∀ {ds : List Deferred} {S : Nat} {w w' : World}, Marks B S ds w → (∀ k, k < S → w.heap[k]? = some (.deferred (some [])) → w'.heap[k]? = some (.deferred (some []))) → Marks B S ds w'
  | [], _, _, _, _, _ => trivial
  | d :: ds, S, w, w', ⟨D, h1, h2, h3, h4, h5⟩, h => ⟨D, h1, h2, h3, h D h3 h4, h5.of_heap fun k hk => h k (Nat.lt_trans hk h3)⟩
theorem Marks.keeps {B S : Nat} {ds : List Deferred} {w w' : World} (h : Marks B S ds w) (hk : KeepsOthers w w') : Marks B S ds w' := h.of_heap fun k _ e => hk.same k _ e rfl
theorem Marks.below {B S : Nat} {ds : List Deferred} {w w' : World} (h : Marks B S ds w) (hb : Below w.heap.size w w') : Marks B S ds w' := h.of_heap fun k _ e => (hb.block k (lt_of_heap e)).trans e
theorem Marks.own {B S : Nat} {ds : List Deferred} {w w' : World} {row : Option Nat} (h : Marks B S ds w) (hg : w.grownBy w' row) (hr : ∀ r, row = some r → S ≤ r) : Marks B S ds w' :=
  h.of_heap fun k hk e => (hg.block k (lt_of_heap e) fun e2 => by have := hr k e2.symm; omega).trans e
theorem Marks.put {B S D : Nat} {ds : List Deferred} {w : World} (h : Marks B S ds w) (o : Obj) (hD : S ≤ D) : Marks B S ds (w.putObj D o) := h.of_heap fun k hk e => (World.putObj_heap_other (by omega)).trans e
theorem Marks.add {B S D : Nat} {ds : List Deferred} {w : World} (h : Marks B S ds w) (hD : S ≤ D) (hB : B ≤ D) (hd : w.heap[D]? = some (.deferred (some []))) : Marks B w.heap.size ({ target := .collected D, args := #[] } :: ds) w :=
  ⟨D, rfl, hB, lt_of_heap hd, hd, h.mono hD⟩

/-- the way out -/
theorem leaves_marks {P : Program} {n : Nat} {fn : Func} {tmps : Array Value} {R : Ending → World → Prop} {B : Nat} (I : World → Prop)
    (hp : ∀ W D, I W → B ≤ D → W.heap[D]? = some (.deferred (some [])) → I (W.putObj D (.deferred none))) (he : ∀ W, I W → ∃ v, (results fn tmps).run P W = .ok v W ∧ R (.returned v) W) :
    ∀ (ds : List Deferred) (S : Nat) (W : World), Marks B S ds W → I W → LeavesInM Fence.wide n P fn tmps R ds .returning W
  | [], S, W, _, hI => he W hI
  | d :: ds, S, W, ⟨D, h1, h2, h3, h4, h5⟩, hI => by
    refine ⟨by simp, .inl ⟨D, W.putObj D (.deferred none), by rw [h1], run_takeDeferred h4, ?_⟩⟩
    exact leaves_marks I hp he ds D _ (h5.put _ (Nat.le_refl _)) (hp W D hI h2 h4)
theorem calls_marks {P : Program} {f : FuncId} {fn : Func} {c : Code} {args : Array Value} {w : World} {R : Ending → World → Prop} (hf : P.funcs[f]? = some fn) (hb : fn.body = some c)
    (h : c.wp P (bodyPostM Fence.wide 4 P fn R) { tmps := args ++ Array.replicate (fn.ntmps - args.size) undef, defers := [] } w) : Calls P f args w R :=
  callsIn_wide.1 (callsIn_of_wp_marks (n := 4) hf hb trivial (wpIn_wide.2 h))
theorem grown_put {W : World} {D : Nat} (o : Obj) : W.grownBy (W.putObj D o) (some D) := grownBy_putObj' W D o
/-- what is left after a region, said once for all its orders -/
theorem wpIn_mid {F : Fence} {n : Nat} {P : Program} {c : Code} {Q : Exit → Act → World → Prop} {a : Act} {w : World} (A : Act) (W : World) (h : c.wpIn F n P (fun e a' w' => e = .normal ∧ a' = A ∧ w' = W) a w) (hq : Q .normal A W) : c.wpIn F n P Q a w :=
  wpIn_mono h fun e a' w' ⟨h1, h2, h3⟩ => by subst h1 h2 h3; exact hq
theorem stepIn_append_row {F : Fence} {n : Nat} {P : Program} {e : TypeId} {v : Value} {xs : List Value} {w : World} {base : Nat} {ops : Array Oper} {o : Oper} {a : Act} {K : Act → World → Prop} {Q : Exit → Act → World → Prop} {E : Prop} (hgd : o.guard = none) (s x : Operand) (t : TypeId)
    (ho : o.op = .call { callee := .builtin .append, args := #[s, x], argTypes := #[t, t] })
    (i : TypeInfo) (z : Value) (bytes : Nat) (ht : P.underlying t = some (.slice e)) (hi : P.info? e = some i) (hz : i.zero = some z)
    (hsize : i.size = 1) (hby : i.bytes = bytes) (hzs : z.cells.size = 1) (hs : a.eval s = v) (hr : Row w base e v xs) (A : Option Addr) (m c : Nat) (news : List Value) (hx : a.eval x = .slice A m c)
    (hnl : m = news.length) (hn : ValsAt w A news)
    (h1 : ∀ u ∈ news, u.oneCell' = true) (h63 : xs.length + news.length ≤ maxLen) (hbytes : (xs.length + news.length) * bytes ≤ 140737488355328) (hbase : base ≤ w.heap.size)
    (h : ∀ v' w', Row w' base e v' (xs ++ news) → w.grownBy w' v.ownBlock → (v'.ownBlock = v.ownBlock ∨ ∀ k, v'.ownBlock = some k → w.heap.size ≤ k) → K (a.put o.dst v') w') :
    if Region.wanted o (yielded ops a.tmps) = true then Oper.wpIn F n P o a w K Q else E := by
  have hw : Region.wanted o (yielded ops a.tmps) = true := by simp [Region.wanted, hgd]
  rw [if_pos hw]
  subst hnl
  obtain ⟨v', w', hrun, h2, h3, h4⟩ := run_append_row (P := P) t o.type i z bytes ht hi hz hsize hby hzs hr A c news hn h1 h63 hbytes hbase
  unfold Oper.wpIn
  refine ⟨?_, ?_⟩
  · simp [Oper.about, ho, resolve, Target.leads, Sem.run_pure]
  · rw [Oper.semAt_eq _ _ _ (by rw [ho]; intro c hc'; cases hc')]
    simp [execOp, ho, resolve, invoke, builtin, hs, hx, hrun, Result.andThen]
    exact h v' w' h2 h3 h4
theorem stepIn_append_nodes {F : Fence} {n : Nat} {P : Program} {e : TypeId} {v : Value} {l : List Nd} {w : World} {base : Nat} {ops : Array Oper} {o : Oper} {a : Act} {K : Act → World → Prop} {Q : Exit → Act → World → Prop} {E : Prop} (hgd : o.guard = none) (s x : Operand) (t : TypeId)
    (ho : o.op = .call { callee := .builtin .append, args := #[s, x], argTypes := #[t, t] })
    (i : TypeInfo) (z : Value) (bytes : Nat) (ht : P.underlying t = some (.slice e)) (hi : P.info? e = some i) (hz : i.zero = some z)
    (hsize : i.size = 6) (hby : i.bytes = bytes) (hzs : z.cells.size = 6) (hs : a.eval s = v) (hr : NRow w base e v l) (A : Option Addr) (m c : Nat) (news : List Nd) (hx : a.eval x = .slice A m c)
    (hnl : m = news.length) (hn : NodesAt w A news)
    (h63 : l.length + news.length ≤ maxLen) (hbytes : (l.length + news.length) * bytes ≤ 140737488355328) (hbase : base ≤ w.heap.size)
    (h : ∀ v' w', NRow w' base e v' (l ++ news) → w.grownBy w' v.ownBlock → (v'.ownBlock = v.ownBlock ∨ ∀ k, v'.ownBlock = some k → w.heap.size ≤ k) → K (a.put o.dst v') w') :
    if Region.wanted o (yielded ops a.tmps) = true then Oper.wpIn F n P o a w K Q else E := by
  have hw : Region.wanted o (yielded ops a.tmps) = true := by simp [Region.wanted, hgd]
  rw [if_pos hw]
  subst hnl
  obtain ⟨v', w', hrun, h2, h3, h4⟩ := run_append_nodes (P := P) t o.type i z bytes ht hi hz hsize hby hzs hr A c news hn h63 hbytes hbase
  unfold Oper.wpIn
  refine ⟨?_, ?_⟩
  · simp [Oper.about, ho, resolve, Target.leads, Sem.run_pure]
  · rw [Oper.semAt_eq _ _ _ (by rw [ho]; intro c hc'; cases hc')]
    simp [execOp, ho, resolve, invoke, builtin, hs, hx, hrun, Result.andThen]
    exact h v' w' h2 h3 h4
/-- a part that goes on, and does nothing else -/
def onlyNormal (R : Act → World → Prop) : Exit → Act → World → Prop
  | .normal, a, w => R a w
  | _, _, _ => False
theorem wp_normal {P : Program} {c : Code} {Q : Exit → Act → World → Prop} {a : Act} {w : World} (R : Act → World → Prop) (h : c.wp P (onlyNormal R) a w) (hq : ∀ a' w', R a' w' → Q .normal a' w') : c.wp P Q a w :=
  wp_mono h fun e a' w' hr => by cases e <;> first | exact hq _ _ hr | exact hr.elim
end Go.Proofs.Ytmghkonmfbpjcab
