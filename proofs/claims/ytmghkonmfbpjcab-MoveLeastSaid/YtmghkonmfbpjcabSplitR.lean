/- SplitR. -/
import Derived.Test.YtmghkonmfbpjcabGC
import Derived.Test.YtmghkonmfbpjcabGJ
import Derived.Test.YtmghkonmfbpjcabGB
import Derived.Test.YtmghkonmfbpjcabGA
set_option linter.unusedVariables false
set_option linter.unusedSimpArgs false
namespace Go.Proofs.Ytmghkonmfbpjcab
section
open Go.RowKit
set_option maxHeartbeats 40000000
attribute [local irreducible] Row madeCells
def SplitPost (t : TypeId) (regs : Int) (l : List Nd) (w : World) (e : Ending) (w' : World) : Prop :=
 Below w.heap.size w w' ∧ ((256 < (splitL l).length ∧ e = .returned (.tuple #[.agg #[.int .i64 0, .slice none 0 0], .int .i64 2])) ∨
  ((splitL l).length ≤ 256 ∧ ∃ v, e = .returned (.tuple #[.agg #[.int .i64 regs, v], .int .i64 0]) ∧ NRow w' w.heap.size t v (splitL l)))
theorem NRow.at_ {w : World} {base g n cap k : Nat} {e : TypeId} {l : List Nd} {y : Nd} (h : NRow w base e (.slice (some ⟨g, 0, none⟩) n cap) l) (hk : l[k]? = some y) : y.lies w g (k * 6) ∧ ∀ j, j < 6 → w.frozen? ⟨g, k * 6 + j, none⟩ = false := by (
 have hlt : k < l.length := (List.getElem?_eq_some_iff.1 hk).1
 obtain ⟨g', c', y', ev, _, _, hy, hl, hf⟩ := h.get hlt
 injection ev with ev
 injection ev with ev
 injection ev with ev
 subst ev
 rw [hk] at hy
 injection hy with hy
 subst hy
 exact ⟨hl, fun j hj => hf _ (by omega)⟩)
structure SpSt (tN tP : TypeId) (B bQ bX : Nat) (w : World) (regs : Int) (pv : Value) (xc : Array Value) (W : World) (v : Value) (out : List Nd) : Prop where
 nrow : NRow W B tN v out
 q : Blk W bQ tP #[.int .i64 regs, v]
 x : Blk W bX tN xc
 p : Blk W B tP #[.int .i64 regs, pv]
 o : Blk W (B + 1) tP #[.int .i64 0, .slice none 0 0]
 below : Below B w W
 bq : B + 1 < bQ
 nx : v.ownBlock ≠ some bX
 sz : B ≤ W.heap.size
section
variable {tN tP : TypeId} {B bQ bX : Nat} {w W W' : World} {regs : Int} {pv v : Value} {xc : Array Value} {out : List Nd}
theorem SpSt.later (h : SpSt tN tP B bQ bX w regs pv xc W v out) (hb : Below W.heap.size W W') : SpSt tN tP B bQ bX w regs pv xc W' v out :=
 ⟨h.nrow.below' hb, h.q.below hb h.q.lt, h.x.below hb h.x.lt, h.p.below hb h.p.lt, h.o.below hb h.o.lt, h.below.trans (hb.mono h.sz), h.bq, h.nx, Nat.le_trans h.sz hb.size⟩
theorem SpSt.store {g n cap : Nat} (h : SpSt tN tP B bQ bX w regs pv xc W (.slice (some ⟨g, 0, none⟩) n cap) out) (hne : tN ≠ tP) {k j : Nat} {y : Nd} (hk : out[k]? = some y) (hj : j < 6) (z : Int) :
 SpSt tN tP B bQ bX w regs pv xc (W.setCell ⟨g, k * 6 + j, none⟩ (.int .i64 z)) (.slice (some ⟨g, 0, none⟩) n cap) (out.set k (y.put j z)) := by (
 have n1 := h.nrow.ne_blk h.q hne
 have n2 := h.nrow.ne_blk h.p hne
 have n3 := h.nrow.ne_blk h.o hne
 have n4 := h.nx
 simp only [Value.ownBlock, ne_eq, Option.some.injEq] at n1 n2 n3 n4
 exact ⟨h.nrow.store hk hj z, h.q.far (Ne.symm n1) _, h.x.far (Ne.symm n4) _, h.p.far (Ne.symm n2) _, h.o.far (Ne.symm n3) _, h.below.setCell (h.nrow.lt g rfl).1 _, h.bq, h.nx, by simpa using h.sz⟩)
theorem SpSt.store2 {g n cap : Nat} (h : SpSt tN tP B bQ bX w regs pv xc W (.slice (some ⟨g, 0, none⟩) n cap) out) (hne : tN ≠ tP) {k : Nat} {y : Nd} (hko : k < out.length) (hk : out[k]? = some y) (z z' : Int) :
 SpSt tN tP B bQ bX w regs pv xc ((W.setCell ⟨g, k * 6 + 4, none⟩ (.int .i64 z)).setCell ⟨g, k * 6 + 5, none⟩ (.int .i64 z')) (.slice (some ⟨g, 0, none⟩) n cap) (out.set k ((y.put 4 z).put 5 z')) := by (
 have h2 := (h.store hne hk (show 4 < 6 by omega) z).store hne (show (out.set k (y.put 4 z))[k]? = some (y.put 4 z) by rw [List.getElem?_set]; simp [hko]) (show 5 < 6 by omega) z'
 rwa [List.set_set] at h2)
theorem SpSt.mid {o : Obj} {W2 : World} (h : SpSt tN tP B bQ bX w regs pv xc W v out) (hne : tN ≠ tP) (hg : (W.alloc o).grownBy W2 v.ownBlock) : Blk W2 bQ tP #[.int .i64 regs, v] :=
 Blk.grown (h.q.alloc _) hg (h.nrow.ne_blk h.q hne)
theorem SpSt.midx {o : Obj} {W2 : World} (h : SpSt tN tP B bQ bX w regs pv xc W v out) (hg : (W.alloc o).grownBy W2 v.ownBlock) : Blk W2 bX tN xc := Blk.grown (h.x.alloc _) hg h.nx
theorem SpSt.midp {o : Obj} {W2 : World} (h : SpSt tN tP B bQ bX w regs pv xc W v out) (hne : tN ≠ tP) (hg : (W.alloc o).grownBy W2 v.ownBlock) : Blk W2 B tP #[.int .i64 regs, pv] := Blk.grown (h.p.alloc _) hg (h.nrow.ne_blk h.p hne)
theorem SpSt.append {o : Obj} {W2 : World} {v2 : Value} {news : List Nd} (h : SpSt tN tP B bQ bX w regs pv xc W v out) (hne : tN ≠ tP) (hr : NRow W2 B tN v2 (out ++ news)) (hg : (W.alloc o).grownBy W2 v.ownBlock)
 (hat : v2.ownBlock = v.ownBlock ∨ ∀ k, v2.ownBlock = some k → (W.alloc o).heap.size ≤ k) : SpSt tN tP B bQ bX w regs pv xc (W2.setCell ⟨bQ, 1, none⟩ v2) v2 (out ++ news) := by (
 have hq2 := h.mid hne hg
 have hx2 : Blk W2 bX tN xc := Blk.grown (h.x.alloc _) hg h.nx
 refine ⟨hr.far (hr.ne_blk hq2 hne) _, hq2.set_ 1 _, hx2.far (hx2.ne_ hq2 hne) _, (Blk.grown (h.p.alloc _) hg (h.nrow.ne_blk h.p hne)).far (by have := h.bq; simp <;> omega) _, (Blk.grown (h.o.alloc _) hg (h.nrow.ne_blk h.o hne)).far (by have := h.bq; simp <;> omega) _,
  ((h.below.alloc h.sz o).grown hg (by have := h.sz; simp <;> omega) (fun q hq => (h.nrow.lt q hq).1)).setCell (by have := h.bq; simp <;> omega) _, h.bq, ?_, ?_⟩
 · (
 rcases hat with e | e
 · rw [e]; exact h.nx
 · (
 intro hb
 have := e bX hb
 have := h.x.lt
 simp at *
 omega))
 · (
 have := hg.size
 have := h.sz
 simp at *
 omega))
end
end
end Go.Proofs.Ytmghkonmfbpjcab
