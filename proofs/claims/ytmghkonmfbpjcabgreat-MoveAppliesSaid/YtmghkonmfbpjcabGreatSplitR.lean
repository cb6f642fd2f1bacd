/- SplitR. -/
import Derived.Test.YtmghkonmfbpjcabGreatGF
import Derived.Test.YtmghkonmfbpjcabGreatGG
import Derived.Test.YtmghkonmfbpjcabGreatGB
import Derived.Test.YtmghkonmfbpjcabGreatGA
set_option linter.unusedVariables false
set_option linter.unusedSimpArgs false
set_option maxRecDepth 100000
namespace Go.Proofs.YtmghkonmfbpjcabGreat
section
open Go.RowKit
set_option maxHeartbeats 40000000
attribute [local irreducible] Row madeCells
def SplitPost (t : TypeId) (regs : Int) (l : List Nd) (w : World) (e : Ending) (w' : World) : Prop :=
 Below w.heap.size w w' ∧ ((256 < (splitL l).length ∧ e = .returned (.tuple #[.agg #[.int .i64 0, .slice none 0 0], .int .i64 2])) ∨
  ((splitL l).length ≤ 256 ∧ ∃ v, e = .returned (.tuple #[.agg #[.int .i64 regs, v], .int .i64 0]) ∧ NRow w' w.heap.size t v (splitL l)))
theorem NRow.at_ {w : World} {base g n cap k : Nat} {e : TypeId} {l : List Nd} {y : Nd} (h : NRow w base e (.slice (some ⟨g, 0, none⟩) n cap) l) (hk : l[k]? = some y) : y.lies w g (k * 6) ∧ ∀ j, j < 6 → w.frozen? ⟨g, k * 6 + j, none⟩ = false := by (
 have hlt : k < l.length := (List.getElem?_eq_some_iff.1 hk).1
 obtain ⟨g', c', y', ev, _, _, hy, hl, hf⟩ := h.get hlt
 injection ev with ev
 injection ev with ev
 injection ev with ev
 subst ev
 rw [hk] at hy
 injection hy with hy
 subst hy
 exact ⟨hl, fun j hj => hf _ (by omega)⟩)
structure SpSt (tN tP : TypeId) (B bQ bX : Nat) (w : World) (regs : Int) (pv : Value) (xc : Array Value) (W : World) (v : Value) (out : List Nd) : Prop where
 nrow : NRow W B tN v out
 q : Blk W bQ tP #[.int .i64 regs, v]
 x : Blk W bX tN xc
 p : Blk W B tP #[.int .i64 regs, pv]
 o : Blk W (B + 1) tP #[.int .i64 0, .slice none 0 0]
 below : Below B w W
 bq : B + 1 < bQ
 nx : v.ownBlock ≠ some bX
 sz : B ≤ W.heap.size
section
variable {tN tP : TypeId} {B bQ bX : Nat} {w W W' : World} {regs : Int} {pv v : Value} {xc : Array Value} {out : List Nd}
theorem SpSt.later (h : SpSt tN tP B bQ bX w regs pv xc W v out) (hb : Below W.heap.size W W') : SpSt tN tP B bQ bX w regs pv xc W' v out :=
 ⟨h.nrow.below' hb, h.q.below hb h.q.lt, h.x.below hb h.x.lt, h.p.below hb h.p.lt, h.o.below hb h.o.lt, h.below.trans (hb.mono h.sz), h.bq, h.nx, Nat.le_trans h.sz hb.size⟩
theorem SpSt.store {g n cap : Nat} (h : SpSt tN tP B bQ bX w regs pv xc W (.slice (some ⟨g, 0, none⟩) n cap) out) (hne : tN ≠ tP) {k j : Nat} {y : Nd} (hk : out[k]? = some y) (hj : j < 6) (z : Int) :
 SpSt tN tP B bQ bX w regs pv xc (W.setCell ⟨g, k * 6 + j, none⟩ (.int .i64 z)) (.slice (some ⟨g, 0, none⟩) n cap) (out.set k (y.put j z)) := by (
 have n1 := h.nrow.ne_blk h.q hne
 have n2 := h.nrow.ne_blk h.p hne
 have n3 := h.nrow.ne_blk h.o hne
 have n4 := h.nx
 simp only [Value.ownBlock, ne_eq, Option.some.injEq] at n1 n2 n3 n4
 exact ⟨h.nrow.store hk hj z, h.q.far (Ne.symm n1) _, h.x.far (Ne.symm n4) _, h.p.far (Ne.symm n2) _, h.o.far (Ne.symm n3) _, h.below.setCell (h.nrow.lt g rfl).1 _, h.bq, h.nx, by simpa using h.sz⟩)
theorem SpSt.store2 {g n cap : Nat} (h : SpSt tN tP B bQ bX w regs pv xc W (.slice (some ⟨g, 0, none⟩) n cap) out) (hne : tN ≠ tP) {k : Nat} {y : Nd} (hko : k < out.length) (hk : out[k]? = some y) (z z' : Int) :
 SpSt tN tP B bQ bX w regs pv xc ((W.setCell ⟨g, k * 6 + 4, none⟩ (.int .i64 z)).setCell ⟨g, k * 6 + 5, none⟩ (.int .i64 z')) (.slice (some ⟨g, 0, none⟩) n cap) (out.set k ((y.put 4 z).put 5 z')) := by (
 have h2 := (h.store hne hk (show 4 < 6 by omega) z).store hne (show (out.set k (y.put 4 z))[k]? = some (y.put 4 z) by rw [List.getElem?_set]; simp [hko]) (show 5 < 6 by omega) z'
 rwa [List.set_set] at h2)
theorem SpSt.mid {o : Obj} {W2 : World} (h : SpSt tN tP B bQ bX w regs pv xc W v out) (hne : tN ≠ tP) (hg : (W.alloc o).grownBy W2 v.ownBlock) : Blk W2 bQ tP #[.int .i64 regs, v] :=
 Blk.grown (h.q.alloc _) hg (h.nrow.ne_blk h.q hne)
theorem SpSt.midx {o : Obj} {W2 : World} (h : SpSt tN tP B bQ bX w regs pv xc W v out) (hg : (W.alloc o).grownBy W2 v.ownBlock) : Blk W2 bX tN xc := Blk.grown (h.x.alloc _) hg h.nx
theorem SpSt.midp {o : Obj} {W2 : World} (h : SpSt tN tP B bQ bX w regs pv xc W v out) (hne : tN ≠ tP) (hg : (W.alloc o).grownBy W2 v.ownBlock) : Blk W2 B tP #[.int .i64 regs, pv] := Blk.grown (h.p.alloc _) hg (h.nrow.ne_blk h.p hne)
theorem SpSt.append {o : Obj} {W2 : World} {v2 : Value} {news : List Nd} (h : SpSt tN tP B bQ bX w regs pv xc W v out) (hne : tN ≠ tP) (hr : NRow W2 B tN v2 (out ++ news)) (hg : (W.alloc o).grownBy W2 v.ownBlock)
 (hat : v2.ownBlock = v.ownBlock ∨ ∀ k, v2.ownBlock = some k → (W.alloc o).heap.size ≤ k) : SpSt tN tP B bQ bX w regs pv xc (W2.setCell ⟨bQ, 1, none⟩ v2) v2 (out ++ news) := by (
 have hq2 := h.mid hne hg
 have hx2 : Blk W2 bX tN xc := Blk.grown (h.x.alloc _) hg h.nx
 refine ⟨hr.far (hr.ne_blk hq2 hne) _, hq2.set_ 1 _, hx2.far (hx2.ne_ hq2 hne) _, (Blk.grown (h.p.alloc _) hg (h.nrow.ne_blk h.p hne)).far (by have := h.bq; simp <;> omega) _, (Blk.grown (h.o.alloc _) hg (h.nrow.ne_blk h.o hne)).far (by have := h.bq; simp <;> omega) _,
  ((h.below.alloc h.sz o).grown hg (by have := h.sz; simp <;> omega) (fun q hq => (h.nrow.lt q hq).1)).setCell (by have := h.bq; simp <;> omega) _, h.bq, ?_, ?_⟩
 · (
 rcases hat with e | e
 · rw [e]; exact h.nx
 · (
 intro hb
 have := e bX hb
 have := h.x.lt
 simp at *
 omega))
 · (
 have := hg.size
 have := h.sz
 simp at *
 omega))
end
theorem SplitOf_any (regs : Int) (A : Option Addr) (l : List Nd) (cap : Nat) (w : World) (hA : NodesAt w A l) (hR : Right regs l) :
 Calls Tryz.prog 50 #[.agg #[.int .i64 regs, .slice A l.length cap]] w (SplitPost 57 regs l w) := by (
 have hlo := hR.lo
 have hhi := hR.hi
 have hO := fun W (hW : Below w.heap.size w W) => OwnProg_any regs A l cap W (hA.below hW) (by omega)
 have hH : ∀ W (m : Int) (h0 : 0 ≤ m) (hm : m < l.length) (hW : Below w.heap.size w W), Calls Tryz.prog 36 #[.agg #[.int .i64 regs, .slice A l.length cap], .int .i64 m] W (RowPost W.heap.size 3 (ints (sel (aheadP l m.toNat) l.length)) W) := fun W m h0 hm hW => by (
 obtain ⟨q, rfl⟩ := Int.eq_ofNat_of_zero_le h0
 have := AheadOf_any regs A l cap W q (by omega) hhi (hA.below hW)
 simpa using this)
 have HO := hide hO
 have HH := hide hH
 have HR := hide hR
 clear hO hR hH
 obtain ⟨i3, h3i, h3z, h3s, h3b⟩ := info_parts infoNode
 go_enter Tryz.func50, Tryz.ntmps50
 go_wp2_with fail
 refine (HO.out _ (by (with_reducible repeat first | apply Qa | assumption | apply Qb | apply Qc | apply Qd | apply Qe | refine Qf ?_ (by assumption) ?_); all_goals (try simp only [Sz]); first | done | omega | (try simp only [Sz] at *); omega)).mono ?_
 rintro e w1 ⟨v1, rfl, hN1, hb1⟩
 obtain ⟨A1, c1, rfl, _, _⟩ := hN1.shape
 have hz1 := hb1.size
 simp only [World.size_alloc] at hz1
 have hP1 : Blk w1 w.heap.size 24 #[.int .i64 regs, .slice A l.length cap] := Blk.below (by repeat (first | ((with_reducible refine Blk.new' ?_); exact (by (try simp only [Sz]); first | done | omega | (try simp only [Sz] at *); omega)) | (with_reducible refine Blk.drew ?_) | (with_reducible refine Blk.drewN ?_ _) | (with_reducible refine Blk.alloc ?_ _) | with_reducible assumption)) hb1 (by simp <;> omega)
 have hO1 : Blk w1 (w.heap.size + 1) 24 #[.int .i64 0, .slice none 0 0] := Blk.below (by repeat (first | ((with_reducible refine Blk.new' ?_); exact (by (try simp only [Sz]); first | done | omega | (try simp only [Sz] at *); omega)) | (with_reducible refine Blk.drew ?_) | (with_reducible refine Blk.drewN ?_ _) | (with_reducible refine Blk.alloc ?_ _) | with_reducible assumption)) hb1 (by simp <;> omega)
 have hB1 : Below w.heap.size w w1 := Below.trans (by (with_reducible repeat first | apply Qa | assumption | apply Qb | apply Qc | apply Qd | apply Qe | refine Qf ?_ (by assumption) ?_); all_goals (try simp only [Sz]); first | done | omega | (try simp only [Sz] at *); omega) (hb1.mono (by simp <;> omega))
 have hN1' := hN1.mono (base' := w.heap.size) (by simp <;> omega)
 clear hb1 HO hN1
 go_wp2_with fail
 go_loopg [5] (l.length) (fun gk i wr => ∃ (k : Nat) (v : Value), k ≤ l.length ∧ i = .int .i64 k ∧ gk = l.length - k ∧ NRow wr w.heap.size 57 v (splitTo l k) ∧ Blk wr w1.heap.size 24 #[.int .i64 regs, v] ∧
  Blk wr w.heap.size 24 #[.int .i64 regs, .slice A l.length cap] ∧ Blk wr (w.heap.size + 1) 24 #[.int .i64 0, .slice none 0 0] ∧ Below w.heap.size w wr)
 case atStart => exact ⟨0, _, Nat.zero_le _, rfl, rfl, hN1'.alloc _, (by repeat (first | ((with_reducible refine Blk.new' ?_); exact (by (try simp only [Sz]); first | done | omega | (try simp only [Sz] at *); omega)) | (with_reducible refine Blk.drew ?_) | (with_reducible refine Blk.drewN ?_ _) | (with_reducible refine Blk.alloc ?_ _) | with_reducible assumption)), hP1.alloc _, hO1.alloc _, (by (with_reducible repeat first | apply Qa | assumption | apply Qb | apply Qc | apply Qd | apply Qe | refine Qf ?_ (by assumption) ?_); all_goals (try simp only [Sz]); first | done | omega | (try simp only [Sz] at *); omega)⟩
 case round => (
 clear hN1' hP1 hO1 hB1
 obtain ⟨k, v, hk, rfl, hgk, hN, hQ, hP, hO, hB⟩ := hrel
 have Hgk := hide hgk
 have hz := hB.size
 have lq := hQ.lt
 have lo := hO.lt
 have lp := hP.lt
 have hle := splitTo_len l k
 clear hgk
 by_cases hlt : k < l.length
 · (
 obtain ⟨n, hn⟩ : ∃ n, l[k]? = some n := ⟨_, List.getElem?_eq_getElem hlt⟩
 obtain ⟨nb, no, n', rfl, hnb, hn', hnl⟩ := (hA.below hB).get (k := k) hlt
 rw [hn] at hn'
 injection hn' with hn'
 subst hn'
 obtain ⟨c0, c1, c2, c3, c4, c5⟩ := hnl
 have hm := List.mem_of_getElem? hn
 have p0 := hP.cell 0
 have p1 := hP.cell 1
 simp only [Yl] at p0 p1
 have u0 : (0 : Int) ≤ (k : Int) := by omega
 have u1 : (k : Int) < (l.length : Int) := by omega
 have Hn := hide hn
 have HN := hide hN
 have HQ := hide hQ
 have HP := hide hP
 have HO := hide hO
 clear hn hN hQ hP hO hA
 by_cases h0 : n.op = 0 ∨ n.op = 12
 · (
 have H0 := hide h0
 by_cases h00 : n.op = 0
 · (
 have t0 : (n.op == 0) = true := by simp [h00]
 clear h0 h00
 go_wp2_with fail
 go_roundg (l.length - (k + 1))
 case measure => have := Hgk.out; omega
 case rel => exact ⟨k + 1, v, by omega, by go_num, rfl, by rw [splitTo_succ Hn.out, splitStep_skip H0.out]; exact HN.out.alloc _, HQ.out.alloc _, HP.out.alloc _, HO.out.alloc _, (by (with_reducible repeat first | apply Qa | assumption | apply Qb | apply Qc | apply Qd | apply Qe | refine Qf ?_ (by assumption) ?_); all_goals (try simp only [Sz]); first | done | omega | (try simp only [Sz] at *); omega)⟩)
 · (
 have t0 : (n.op == 0) = false := by simp [h00]
 have t12 : (n.op == 12) = true := by simp; omega
 clear h0 h00
 go_wp2_with fail
 go_roundg (l.length - (k + 1))
 case measure => have := Hgk.out; omega
 case rel => exact ⟨k + 1, v, by omega, by go_num, rfl, by rw [splitTo_succ Hn.out, splitStep_skip H0.out]; exact HN.out.alloc _, HQ.out.alloc _, HP.out.alloc _, HO.out.alloc _, (by (with_reducible repeat first | apply Qa | assumption | apply Qb | apply Qc | apply Qd | apply Qe | refine Qf ?_ (by assumption) ?_); all_goals (try simp only [Sz]); first | done | omega | (try simp only [Sz] at *); omega)⟩))
 · (
 obtain ⟨t0, t1⟩ := HR.out.then_ hm (by omega)
 have t0' : 0 ≤ n.t := by omega
 have hway2 := fun h => HR.out.else_ hm h
 have b0 : (n.op == 0) = false := by simp; omega
 have b12 : (n.op == 12) = false := by simp; omega
 have H0 := hide h0
 have hS0 : SpSt 57 24 w.heap.size w1.heap.size wr.heap.size w regs (.slice (some ⟨nb, no, none⟩) l.length cap) #[.int .i64 n.op, .int .i64 n.d, .int .i64 n.a, .int .i64 n.b, .int .i64 n.t, .int .i64 n.e] (wr.alloc (.cells #[.int .i64 n.op, .int .i64 n.d, .int .i64 n.a, .int .i64 n.b, .int .i64 n.t, .int .i64 n.e] 57)) v (splitTo l k) :=
  ⟨HN.out.alloc _, HQ.out.alloc _, Blk.new _ _ _, HP.out.alloc _, HO.out.alloc _, hB.alloc hz _, by omega, fun e => by have := (HN.out.lt _ e).2; omega, by simp <;> omega⟩
 have hget : (splitTo l k)[k]? = some n := by rw [splitTo_get l k k (Nat.le_refl _) hlt]; exact Hn.out
 have hB0 := hS0.below
 obtain ⟨g, cN, y, rfl, _, _, _, _, _⟩ := HN.out.get (k := k) (by omega)
 generalize hout : splitTo l k = out at *
 have hko : k < out.length := by omega
 have Hget := hide hget
 have Hout := hide hout
 have HS0 := hide hS0
 have HB0 := hide hB0
 clear h0 hget hS0 hB0 hout HN HQ HP HO
 by_cases hw : 2 ≤ (sel (aheadP l n.t.toNat) l.length).length
 · (
 by_cases h11 : n.op = 11
 · (
 obtain ⟨e0', e1⟩ := hway2 h11
 have e0 : 0 ≤ n.e := by omega
 have t11 : (n.op == 11) = true := by simp [h11]
 by_cases het : n.e = n.t
 · (
 have te : (n.e == n.t) = true := by simp [het]
 have te' : (n.e != n.t) = false := by simp [het]
 have heq : step2 l k n (split1 l n out.length) (step1 l k n out) = out.set k ((n.put 4 out.length).put 5 out.length) ++ [skipN n.t] := by (
 rw [step2_none (by simp [elseB, te']) (step1_get hko)]; exact step1_both hw ⟨h11, het⟩)
 have Heq := hide heq
 clear h11 het heq hway2 e0' e0 e1
 go_wp2_with (first | (at_builtin; have hS3 := (HS2.out.store2 (by decide) hko Hget.out (out.length : Int) (out.length : Int)); refine wpList_append_nodes (v := .slice (some ⟨g, 0, none⟩) out.length cN) (l := (out.set k ((n.put 4 out.length).put 5 out.length))) (base := w.heap.size) rfl _ _ _ rfl i3 _ 48 Tryz.underlying22 h3i h3z h3s h3b rfl rfl (NRow.alloc hS3.nrow _) (some ⟨w2.heap.size, 0, none⟩) 1 1 [skipN n.t] rfl rfl (nodes_one' (by simp)) (by simp [maxLen]; omega) (by simp; omega) (by simp; omega) ?_; intro v4 w4 hr4 hg4 hat4; obtain ⟨g4, c4', y', ev, _, hgl4, hy4, hli4, hfr4⟩ := hr4.get (k := k) (by simp; omega); have hl1 : ((out.set k ((n.put 4 out.length).put 5 out.length)) ++ [skipN n.t]).length = out.length + 1 := (by simp); rw [hl1] at ev; subst ev; have hQ4 := hS3.mid (by decide) hg4; have r1 := hQ4.cell 1; have r2 := hQ4.frozen 1; have hX4 := hS3.midx hg4; have x0' := hX4.cell 0; have x4' := hX4.cell 4; have x5' := hX4.cell 5; have hP4 := hS3.midp (by decide) hg4; have p0' := hP4.cell 0; have p1' := hP4.cell 1; simp only [Yl] at r1 x0' x4' x5' p0' p1'; have hS5 := hS3.append (by decide) hr4 hg4 hat4; have HS5 := hide hS5; clear hS3 hS5 hr4 hat4 hli4 hfr4 hQ4 hX4 hP4) | (go_at_call 36; refine (HH.out _ n.t t0' t1 HB0.out).mono ?_; rintro e w2 ⟨v2, rfl, hr2, hb2⟩; obtain ⟨A2, c2, rfl, _, _⟩ := hr2.shape; rw [ints_length]; have hS2 := HS0.out.later hb2; have nx2 : ¬ (g = wr.heap.size) := (fun e => hS2.nx (by rw [e]; rfl)); have nx3 : ¬ (wr.heap.size = g) := (fun e => nx2 e.symm); have x0 := hS2.x.cell 0; have x4 := hS2.x.cell 4; have x5 := hS2.x.cell 5; have p0 := hS2.p.cell 0; have p1 := hS2.p.cell 1; have q1 := hS2.q.cell 1; have fq := hS2.q.frozen 1; simp only [Yl] at x0 x4 x5 p0 p1 q1; obtain ⟨hlies, hfr⟩ := hS2.nrow.at_ Hget.out; obtain ⟨y0, y1, y2, y3, y4, y5⟩ := hlies; have f4 := hfr 4 (by omega); have f5 := hfr 5 (by omega); clear hfr; have hz2 := hb2.size; simp only [World.size_alloc] at hz2; have hz2' := Nat.lt_of_succ_le hz2; have HS2 := hide hS2; clear hS2 hr2 hz2))
 go_roundg (l.length - (k + 1)); (case measure => (have := Hgk.out; omega)); (case rel => (have hS9 := HS5.out; exact ⟨k + 1, _, by omega, by go_num, rfl, by rw [splitTo_succ Hn.out, Hout.out, splitStep_two H0.out, Heq.out]; exact hS9.nrow, hS9.q, hS9.p, hS9.o, hS9.below⟩)))
 · (
 have te : (n.e == n.t) = false := by simp [het]
 have te' : (n.e != n.t) = true := by simp [het]
 have hs1 : step1 l k n out = out.set k (n.put 4 out.length) ++ [skipN n.t] := step1_some hw (fun h => het h.2)
 have hg1 := step1_get (l := l) (n := n) hko
 have hx1 : split1 l n out.length = n.put 4 out.length := by (
 unfold split1
 rw [if_pos (show 2 ≤ ways l n.t from hw), if_neg (fun h => het h.2)]
 rfl)
 rw [hx1, hs1] at hg1
 have Hg1 := hide hg1
 by_cases hwe : 2 ≤ (sel (aheadP l n.e.toNat) l.length).length
 · (
 have heq : step2 l k n (split1 l n out.length) (step1 l k n out) = (out.set k (n.put 4 out.length) ++ [skipN n.t]).set k ((n.put 4 out.length).put 5 ((out.length : Int) + 1)) ++ [skipN n.e] := by (
 rw [step2_some (by simp [elseB, t11, te']; exact hwe), hs1, hx1]; simp)
 have Heq := hide heq
 clear h11 het heq hs1 hx1 hg1 hway2 e0'
 go_wp2_with (first | (at_builtin; have hS8 := HS7.out.store (by decide) Hg1.out (show 5 < 6 by omega) ((out.length : Int) + 1); refine wpList_append_nodes (v := .slice (some ⟨g4, 0, none⟩) (out.length + 1) c4') (l := (out.set k (n.put 4 out.length) ++ [skipN n.t]).set k ((n.put 4 out.length).put 5 ((out.length : Int) + 1))) (base := w.heap.size) rfl _ _ _ rfl i3 _ 48 Tryz.underlying22 h3i h3z h3s h3b rfl rfl (NRow.alloc hS8.nrow _) (some ⟨w6.heap.size, 0, none⟩) 1 1 [skipN n.e] rfl rfl (nodes_one' (by simp)) (by simp [maxLen]; omega) (by simp; omega) (by simp; omega) ?_; intro v9 w9 hr9 hg9 hat9; obtain ⟨A9, c9, ev, _, _⟩ := hr9.shape; have hl2 : ((out.set k (n.put 4 out.length) ++ [skipN n.t]).set k ((n.put 4 out.length).put 5 ((out.length : Int) + 1)) ++ [skipN n.e]).length = (out.length + 1) + 1 := (by simp); rw [hl2] at ev; subst ev; have hQ9 := hS8.mid (by decide) hg9; have s1 := hQ9.cell 1; have s2 := hQ9.frozen 1; simp only [Yl] at s1; have hSA := hS8.append (by decide) hr9 hg9 hat9; have HSA := hide hSA; clear hS8 hSA hr9 hat9 hQ9) | (at_builtin; have hS3 := HS2.out.store (by decide) Hget.out (show 4 < 6 by omega) (out.length : Int); refine wpList_append_nodes (v := .slice (some ⟨g, 0, none⟩) out.length cN) (l := (out.set k (n.put 4 out.length))) (base := w.heap.size) rfl _ _ _ rfl i3 _ 48 Tryz.underlying22 h3i h3z h3s h3b rfl rfl (NRow.alloc hS3.nrow _) (some ⟨w2.heap.size, 0, none⟩) 1 1 [skipN n.t] rfl rfl (nodes_one' (by simp)) (by simp [maxLen]; omega) (by simp; omega) (by simp; omega) ?_; intro v4 w4 hr4 hg4 hat4; obtain ⟨g4, c4', y', ev, _, hgl4, hy4, hli4, hfr4⟩ := hr4.get (k := k) (by simp; omega); have hl1 : ((out.set k (n.put 4 out.length)) ++ [skipN n.t]).length = out.length + 1 := (by simp); rw [hl1] at ev; subst ev; have hQ4 := hS3.mid (by decide) hg4; have r1 := hQ4.cell 1; have r2 := hQ4.frozen 1; have hX4 := hS3.midx hg4; have x0' := hX4.cell 0; have x4' := hX4.cell 4; have x5' := hX4.cell 5; have hP4 := hS3.midp (by decide) hg4; have p0' := hP4.cell 0; have p1' := hP4.cell 1; simp only [Yl] at r1 x0' x4' x5' p0' p1'; have hS5 := hS3.append (by decide) hr4 hg4 hat4; have HS5 := hide hS5; clear hS3 hS5 hr4 hat4 hli4 hfr4 hQ4 hX4 hP4) | (go_at_call 36; refine (HH.out _ n.e e0 e1 (HS5.out.below)).mono ?_; rintro e w6 ⟨v6, rfl, hr6, hb6⟩; obtain ⟨A6, c6, rfl, _, _⟩ := hr6.shape; rw [ints_length]; have hS7 := HS5.out.later hb6; have sz7 := hS7.sz; have nx7 : ¬ (g4 = wr.heap.size) := (fun e => hS7.nx (by rw [e]; rfl)); have nx8 : ¬ (wr.heap.size = g4) := (fun e => nx7 e.symm); have x0 := hS7.x.cell 0; have x4 := hS7.x.cell 4; have x5 := hS7.x.cell 5; have p0 := hS7.p.cell 0; have p1 := hS7.p.cell 1; have q1 := hS7.q.cell 1; have fq := hS7.q.frozen 1; simp only [Yl] at x0 x4 x5 p0 p1 q1; obtain ⟨hlies, hfr⟩ := hS7.nrow.at_ Hg1.out; obtain ⟨y0, y1, y2, y3, y4, y5⟩ := hlies; have f4 := hfr 4 (by omega); have f5 := hfr 5 (by omega); clear hfr; have HS7 := hide hS7; clear hS7 hr6) | (go_at_call 36; refine (HH.out _ n.t t0' t1 HB0.out).mono ?_; rintro e w2 ⟨v2, rfl, hr2, hb2⟩; obtain ⟨A2, c2, rfl, _, _⟩ := hr2.shape; rw [ints_length]; have hS2 := HS0.out.later hb2; have nx2 : ¬ (g = wr.heap.size) := (fun e => hS2.nx (by rw [e]; rfl)); have nx3 : ¬ (wr.heap.size = g) := (fun e => nx2 e.symm); have x0 := hS2.x.cell 0; have x4 := hS2.x.cell 4; have x5 := hS2.x.cell 5; have p0 := hS2.p.cell 0; have p1 := hS2.p.cell 1; have q1 := hS2.q.cell 1; have fq := hS2.q.frozen 1; simp only [Yl] at x0 x4 x5 p0 p1 q1; obtain ⟨hlies, hfr⟩ := hS2.nrow.at_ Hget.out; obtain ⟨y0, y1, y2, y3, y4, y5⟩ := hlies; have f4 := hfr 4 (by omega); have f5 := hfr 5 (by omega); clear hfr; have hz2 := hb2.size; simp only [World.size_alloc] at hz2; have hz2' := Nat.lt_of_succ_le hz2; have HS2 := hide hS2; clear hS2 hr2 hz2))
 go_roundg (l.length - (k + 1)); (case measure => (have := Hgk.out; omega)); (case rel => (have hS9 := HSA.out; exact ⟨k + 1, _, by omega, by go_num, rfl, by rw [splitTo_succ Hn.out, Hout.out, splitStep_two H0.out, Heq.out]; exact hS9.nrow, hS9.q, hS9.p, hS9.o, hS9.below⟩)))
 · (
 have heq : step2 l k n (split1 l n out.length) (step1 l k n out) = out.set k (n.put 4 out.length) ++ [skipN n.t] := by (
 rw [step2_none (by have hw' : ¬ 2 ≤ ways l n.e := hwe; simp [elseB, hw']) (step1_get hko)]; exact hs1)
 have Heq := hide heq
 clear h11 het heq hs1 hx1 hg1 hway2 e0'
 go_wp2_with (first | (at_builtin; have hS3 := HS2.out.store (by decide) Hget.out (show 4 < 6 by omega) (out.length : Int); refine wpList_append_nodes (v := .slice (some ⟨g, 0, none⟩) out.length cN) (l := (out.set k (n.put 4 out.length))) (base := w.heap.size) rfl _ _ _ rfl i3 _ 48 Tryz.underlying22 h3i h3z h3s h3b rfl rfl (NRow.alloc hS3.nrow _) (some ⟨w2.heap.size, 0, none⟩) 1 1 [skipN n.t] rfl rfl (nodes_one' (by simp)) (by simp [maxLen]; omega) (by simp; omega) (by simp; omega) ?_; intro v4 w4 hr4 hg4 hat4; obtain ⟨g4, c4', y', ev, _, hgl4, hy4, hli4, hfr4⟩ := hr4.get (k := k) (by simp; omega); have hl1 : ((out.set k (n.put 4 out.length)) ++ [skipN n.t]).length = out.length + 1 := (by simp); rw [hl1] at ev; subst ev; have hQ4 := hS3.mid (by decide) hg4; have r1 := hQ4.cell 1; have r2 := hQ4.frozen 1; have hX4 := hS3.midx hg4; have x0' := hX4.cell 0; have x4' := hX4.cell 4; have x5' := hX4.cell 5; have hP4 := hS3.midp (by decide) hg4; have p0' := hP4.cell 0; have p1' := hP4.cell 1; simp only [Yl] at r1 x0' x4' x5' p0' p1'; have hS5 := hS3.append (by decide) hr4 hg4 hat4; have HS5 := hide hS5; clear hS3 hS5 hr4 hat4 hli4 hfr4 hQ4 hX4 hP4) | (go_at_call 36; refine (HH.out _ n.e e0 e1 (HS5.out.below)).mono ?_; rintro e w6 ⟨v6, rfl, hr6, hb6⟩; obtain ⟨A6, c6, rfl, _, _⟩ := hr6.shape; rw [ints_length]; have hS7 := HS5.out.later hb6; have sz7 := hS7.sz; have nx7 : ¬ (g4 = wr.heap.size) := (fun e => hS7.nx (by rw [e]; rfl)); have nx8 : ¬ (wr.heap.size = g4) := (fun e => nx7 e.symm); have x0 := hS7.x.cell 0; have x4 := hS7.x.cell 4; have x5 := hS7.x.cell 5; have p0 := hS7.p.cell 0; have p1 := hS7.p.cell 1; have q1 := hS7.q.cell 1; have fq := hS7.q.frozen 1; simp only [Yl] at x0 x4 x5 p0 p1 q1; obtain ⟨hlies, hfr⟩ := hS7.nrow.at_ Hg1.out; obtain ⟨y0, y1, y2, y3, y4, y5⟩ := hlies; have f4 := hfr 4 (by omega); have f5 := hfr 5 (by omega); clear hfr; have HS7 := hide hS7; clear hS7 hr6) | (go_at_call 36; refine (HH.out _ n.t t0' t1 HB0.out).mono ?_; rintro e w2 ⟨v2, rfl, hr2, hb2⟩; obtain ⟨A2, c2, rfl, _, _⟩ := hr2.shape; rw [ints_length]; have hS2 := HS0.out.later hb2; have nx2 : ¬ (g = wr.heap.size) := (fun e => hS2.nx (by rw [e]; rfl)); have nx3 : ¬ (wr.heap.size = g) := (fun e => nx2 e.symm); have x0 := hS2.x.cell 0; have x4 := hS2.x.cell 4; have x5 := hS2.x.cell 5; have p0 := hS2.p.cell 0; have p1 := hS2.p.cell 1; have q1 := hS2.q.cell 1; have fq := hS2.q.frozen 1; simp only [Yl] at x0 x4 x5 p0 p1 q1; obtain ⟨hlies, hfr⟩ := hS2.nrow.at_ Hget.out; obtain ⟨y0, y1, y2, y3, y4, y5⟩ := hlies; have f4 := hfr 4 (by omega); have f5 := hfr 5 (by omega); clear hfr; have hz2 := hb2.size; simp only [World.size_alloc] at hz2; have hz2' := Nat.lt_of_succ_le hz2; have HS2 := hide hS2; clear hS2 hr2 hz2))
 go_roundg (l.length - (k + 1)); (case measure => (have := Hgk.out; omega)); (case rel => (have hS9 := HS7.out; exact ⟨k + 1, _, by omega, by go_num, rfl, by rw [splitTo_succ Hn.out, Hout.out, splitStep_two H0.out, Heq.out]; exact hS9.nrow, hS9.q, hS9.p, hS9.o, hS9.below⟩)))))
 · (
 have t11 : (n.op == 11) = false := by simp [h11]
 have heq : step2 l k n (split1 l n out.length) (step1 l k n out) = out.set k (n.put 4 out.length) ++ [skipN n.t] := by (
 rw [step2_none (by simp [elseB, t11]) (step1_get hko)]; exact step1_some hw (fun h => h11 h.1))
 have Heq := hide heq
 clear h11 heq hway2
 go_wp2_with (first | (at_builtin; have hS3 := HS2.out.store (by decide) Hget.out (show 4 < 6 by omega) (out.length : Int); refine wpList_append_nodes (v := .slice (some ⟨g, 0, none⟩) out.length cN) (l := (out.set k (n.put 4 out.length))) (base := w.heap.size) rfl _ _ _ rfl i3 _ 48 Tryz.underlying22 h3i h3z h3s h3b rfl rfl (NRow.alloc hS3.nrow _) (some ⟨w2.heap.size, 0, none⟩) 1 1 [skipN n.t] rfl rfl (nodes_one' (by simp)) (by simp [maxLen]; omega) (by simp; omega) (by simp; omega) ?_; intro v4 w4 hr4 hg4 hat4; obtain ⟨g4, c4', y', ev, _, hgl4, hy4, hli4, hfr4⟩ := hr4.get (k := k) (by simp; omega); have hl1 : ((out.set k (n.put 4 out.length)) ++ [skipN n.t]).length = out.length + 1 := (by simp); rw [hl1] at ev; subst ev; have hQ4 := hS3.mid (by decide) hg4; have r1 := hQ4.cell 1; have r2 := hQ4.frozen 1; have hX4 := hS3.midx hg4; have x0' := hX4.cell 0; have x4' := hX4.cell 4; have x5' := hX4.cell 5; have hP4 := hS3.midp (by decide) hg4; have p0' := hP4.cell 0; have p1' := hP4.cell 1; simp only [Yl] at r1 x0' x4' x5' p0' p1'; have hS5 := hS3.append (by decide) hr4 hg4 hat4; have HS5 := hide hS5; clear hS3 hS5 hr4 hat4 hli4 hfr4 hQ4 hX4 hP4) | (go_at_call 36; refine (HH.out _ n.t t0' t1 HB0.out).mono ?_; rintro e w2 ⟨v2, rfl, hr2, hb2⟩; obtain ⟨A2, c2, rfl, _, _⟩ := hr2.shape; rw [ints_length]; have hS2 := HS0.out.later hb2; have nx2 : ¬ (g = wr.heap.size) := (fun e => hS2.nx (by rw [e]; rfl)); have nx3 : ¬ (wr.heap.size = g) := (fun e => nx2 e.symm); have x0 := hS2.x.cell 0; have x4 := hS2.x.cell 4; have x5 := hS2.x.cell 5; have p0 := hS2.p.cell 0; have p1 := hS2.p.cell 1; have q1 := hS2.q.cell 1; have fq := hS2.q.frozen 1; simp only [Yl] at x0 x4 x5 p0 p1 q1; obtain ⟨hlies, hfr⟩ := hS2.nrow.at_ Hget.out; obtain ⟨y0, y1, y2, y3, y4, y5⟩ := hlies; have f4 := hfr 4 (by omega); have f5 := hfr 5 (by omega); clear hfr; have hz2 := hb2.size; simp only [World.size_alloc] at hz2; have hz2' := Nat.lt_of_succ_le hz2; have HS2 := hide hS2; clear hS2 hr2 hz2))
 go_roundg (l.length - (k + 1)); (case measure => (have := Hgk.out; omega)); (case rel => (have hS9 := HS5.out; exact ⟨k + 1, _, by omega, by go_num, rfl, by rw [splitTo_succ Hn.out, Hout.out, splitStep_two H0.out, Heq.out]; exact hS9.nrow, hS9.q, hS9.p, hS9.o, hS9.below⟩))))
 · (
 have hs1 : step1 l k n out = out := step1_none hw Hget.out
 have hx1 : split1 l n out.length = n := by (
 unfold split1
 rw [if_neg (show ¬ 2 ≤ ways l n.t from hw)])
 by_cases h11 : n.op = 11
 · (
 obtain ⟨e0', e1⟩ := hway2 h11
 have e0 : 0 ≤ n.e := by omega
 have t11 : (n.op == 11) = true := by simp [h11]
 by_cases het : n.e = n.t
 · (
 have te : (n.e == n.t) = true := by simp [het]
 have te' : (n.e != n.t) = false := by simp [het]
 have heq : step2 l k n (split1 l n out.length) (step1 l k n out) = out := by (
 rw [hs1, hx1]; exact step2_none (by simp [elseB, te']) Hget.out)
 have Heq := hide heq
 clear h11 het heq hway2 e0' e0 e1 hs1 hx1
 go_wp2_with (first | (go_at_call 36; refine (HH.out _ n.t t0' t1 HB0.out).mono ?_; rintro e w2 ⟨v2, rfl, hr2, hb2⟩; obtain ⟨A2, c2, rfl, _, _⟩ := hr2.shape; rw [ints_length]; have hS2 := HS0.out.later hb2; have nx2 : ¬ (g = wr.heap.size) := (fun e => hS2.nx (by rw [e]; rfl)); have nx3 : ¬ (wr.heap.size = g) := (fun e => nx2 e.symm); have x0 := hS2.x.cell 0; have x4 := hS2.x.cell 4; have x5 := hS2.x.cell 5; have p0 := hS2.p.cell 0; have p1 := hS2.p.cell 1; have q1 := hS2.q.cell 1; have fq := hS2.q.frozen 1; simp only [Yl] at x0 x4 x5 p0 p1 q1; obtain ⟨hlies, hfr⟩ := hS2.nrow.at_ Hget.out; obtain ⟨y0, y1, y2, y3, y4, y5⟩ := hlies; have f4 := hfr 4 (by omega); have f5 := hfr 5 (by omega); clear hfr; have hz2 := hb2.size; simp only [World.size_alloc] at hz2; have hz2' := Nat.lt_of_succ_le hz2; have HS2 := hide hS2; clear hS2 hr2 hz2))
 go_roundg (l.length - (k + 1)); (case measure => (have := Hgk.out; omega)); (case rel => (have hS9 := HS2.out; exact ⟨k + 1, _, by omega, by go_num, rfl, by rw [splitTo_succ Hn.out, Hout.out, splitStep_two H0.out, Heq.out]; exact hS9.nrow, hS9.q, hS9.p, hS9.o, hS9.below⟩)))
 · (
 have te : (n.e == n.t) = false := by simp [het]
 have te' : (n.e != n.t) = true := by simp [het]
 by_cases hwe : 2 ≤ (sel (aheadP l n.e.toNat) l.length).length
 · (
 have heq : step2 l k n (split1 l n out.length) (step1 l k n out) = out.set k (n.put 5 out.length) ++ [skipN n.e] := by (
 rw [step2_some (by simp [elseB, t11, te']; exact hwe), hs1, hx1])
 have Heq := hide heq
 clear h11 het heq hs1 hx1 hway2 e0'
 go_wp2_with (first | (at_builtin; have hS8 := HS7.out.store (by decide) Hget.out (show 5 < 6 by omega) (out.length : Int); refine wpList_append_nodes (v := .slice (some ⟨g, 0, none⟩) out.length cN) (l := out.set k (n.put 5 out.length)) (base := w.heap.size) rfl _ _ _ rfl i3 _ 48 Tryz.underlying22 h3i h3z h3s h3b rfl rfl (NRow.alloc hS8.nrow _) (some ⟨w6.heap.size, 0, none⟩) 1 1 [skipN n.e] rfl rfl (nodes_one' (by simp)) (by simp [maxLen]; omega) (by simp; omega) (by simp; omega) ?_; intro v9 w9 hr9 hg9 hat9; obtain ⟨A9, c9, ev, _, _⟩ := hr9.shape; have hl2 : (out.set k (n.put 5 out.length) ++ [skipN n.e]).length = out.length + 1 := (by simp); rw [hl2] at ev; subst ev; have hQ9 := hS8.mid (by decide) hg9; have s1 := hQ9.cell 1; have s2 := hQ9.frozen 1; simp only [Yl] at s1; have hSA := hS8.append (by decide) hr9 hg9 hat9; have HSA := hide hSA; clear hS8 hSA hr9 hat9 hQ9) | (go_at_call 36; refine (HH.out _ n.e e0 e1 (HS2.out.below)).mono ?_; rintro e w6 ⟨v6, rfl, hr6, hb6⟩; obtain ⟨A6, c6, rfl, _, _⟩ := hr6.shape; rw [ints_length]; have hS7 := HS2.out.later hb6; have sz7 := hS7.sz; have nx7 : ¬ (g = wr.heap.size) := (fun e => hS7.nx (by rw [e]; rfl)); have nx8 : ¬ (wr.heap.size = g) := (fun e => nx7 e.symm); have x0 := hS7.x.cell 0; have x4 := hS7.x.cell 4; have x5 := hS7.x.cell 5; have p0 := hS7.p.cell 0; have p1 := hS7.p.cell 1; have q1 := hS7.q.cell 1; have fq := hS7.q.frozen 1; simp only [Yl] at x0 x4 x5 p0 p1 q1; obtain ⟨hlies, hfr⟩ := hS7.nrow.at_ Hget.out; obtain ⟨y0, y1, y2, y3, y4, y5⟩ := hlies; have f4 := hfr 4 (by omega); have f5 := hfr 5 (by omega); clear hfr; have HS7 := hide hS7; clear hS7 hr6) | (go_at_call 36; refine (HH.out _ n.t t0' t1 HB0.out).mono ?_; rintro e w2 ⟨v2, rfl, hr2, hb2⟩; obtain ⟨A2, c2, rfl, _, _⟩ := hr2.shape; rw [ints_length]; have hS2 := HS0.out.later hb2; have nx2 : ¬ (g = wr.heap.size) := (fun e => hS2.nx (by rw [e]; rfl)); have nx3 : ¬ (wr.heap.size = g) := (fun e => nx2 e.symm); have x0 := hS2.x.cell 0; have x4 := hS2.x.cell 4; have x5 := hS2.x.cell 5; have p0 := hS2.p.cell 0; have p1 := hS2.p.cell 1; have q1 := hS2.q.cell 1; have fq := hS2.q.frozen 1; simp only [Yl] at x0 x4 x5 p0 p1 q1; obtain ⟨hlies, hfr⟩ := hS2.nrow.at_ Hget.out; obtain ⟨y0, y1, y2, y3, y4, y5⟩ := hlies; have f4 := hfr 4 (by omega); have f5 := hfr 5 (by omega); clear hfr; have hz2 := hb2.size; simp only [World.size_alloc] at hz2; have hz2' := Nat.lt_of_succ_le hz2; have HS2 := hide hS2; clear hS2 hr2 hz2))
 go_roundg (l.length - (k + 1)); (case measure => (have := Hgk.out; omega)); (case rel => (have hS9 := HSA.out; exact ⟨k + 1, _, by omega, by go_num, rfl, by rw [splitTo_succ Hn.out, Hout.out, splitStep_two H0.out, Heq.out]; exact hS9.nrow, hS9.q, hS9.p, hS9.o, hS9.below⟩)))
 · (
 have heq : step2 l k n (split1 l n out.length) (step1 l k n out) = out := by (
 rw [hs1, hx1]; exact step2_none (by have hw' : ¬ 2 ≤ ways l n.e := hwe; simp [elseB, hw']) Hget.out)
 have Heq := hide heq
 clear h11 het heq hs1 hx1 hway2 e0'
 go_wp2_with (first | (go_at_call 36; refine (HH.out _ n.e e0 e1 (HS2.out.below)).mono ?_; rintro e w6 ⟨v6, rfl, hr6, hb6⟩; obtain ⟨A6, c6, rfl, _, _⟩ := hr6.shape; rw [ints_length]; have hS7 := HS2.out.later hb6; have sz7 := hS7.sz; have nx7 : ¬ (g = wr.heap.size) := (fun e => hS7.nx (by rw [e]; rfl)); have nx8 : ¬ (wr.heap.size = g) := (fun e => nx7 e.symm); have x0 := hS7.x.cell 0; have x4 := hS7.x.cell 4; have x5 := hS7.x.cell 5; have p0 := hS7.p.cell 0; have p1 := hS7.p.cell 1; have q1 := hS7.q.cell 1; have fq := hS7.q.frozen 1; simp only [Yl] at x0 x4 x5 p0 p1 q1; obtain ⟨hlies, hfr⟩ := hS7.nrow.at_ Hget.out; obtain ⟨y0, y1, y2, y3, y4, y5⟩ := hlies; have f4 := hfr 4 (by omega); have f5 := hfr 5 (by omega); clear hfr; have HS7 := hide hS7; clear hS7 hr6) | (go_at_call 36; refine (HH.out _ n.t t0' t1 HB0.out).mono ?_; rintro e w2 ⟨v2, rfl, hr2, hb2⟩; obtain ⟨A2, c2, rfl, _, _⟩ := hr2.shape; rw [ints_length]; have hS2 := HS0.out.later hb2; have nx2 : ¬ (g = wr.heap.size) := (fun e => hS2.nx (by rw [e]; rfl)); have nx3 : ¬ (wr.heap.size = g) := (fun e => nx2 e.symm); have x0 := hS2.x.cell 0; have x4 := hS2.x.cell 4; have x5 := hS2.x.cell 5; have p0 := hS2.p.cell 0; have p1 := hS2.p.cell 1; have q1 := hS2.q.cell 1; have fq := hS2.q.frozen 1; simp only [Yl] at x0 x4 x5 p0 p1 q1; obtain ⟨hlies, hfr⟩ := hS2.nrow.at_ Hget.out; obtain ⟨y0, y1, y2, y3, y4, y5⟩ := hlies; have f4 := hfr 4 (by omega); have f5 := hfr 5 (by omega); clear hfr; have hz2 := hb2.size; simp only [World.size_alloc] at hz2; have hz2' := Nat.lt_of_succ_le hz2; have HS2 := hide hS2; clear hS2 hr2 hz2))
 go_roundg (l.length - (k + 1)); (case measure => (have := Hgk.out; omega)); (case rel => (have hS9 := HS7.out; exact ⟨k + 1, _, by omega, by go_num, rfl, by rw [splitTo_succ Hn.out, Hout.out, splitStep_two H0.out, Heq.out]; exact hS9.nrow, hS9.q, hS9.p, hS9.o, hS9.below⟩)))))
 · (
 have t11 : (n.op == 11) = false := by simp [h11]
 have heq : step2 l k n (split1 l n out.length) (step1 l k n out) = out := by (
 rw [hs1, hx1]; exact step2_none (by simp [elseB, t11]) Hget.out)
 have Heq := hide heq
 clear h11 heq hway2 hs1 hx1
 go_wp2_with (first | (go_at_call 36; refine (HH.out _ n.t t0' t1 HB0.out).mono ?_; rintro e w2 ⟨v2, rfl, hr2, hb2⟩; obtain ⟨A2, c2, rfl, _, _⟩ := hr2.shape; rw [ints_length]; have hS2 := HS0.out.later hb2; have nx2 : ¬ (g = wr.heap.size) := (fun e => hS2.nx (by rw [e]; rfl)); have nx3 : ¬ (wr.heap.size = g) := (fun e => nx2 e.symm); have x0 := hS2.x.cell 0; have x4 := hS2.x.cell 4; have x5 := hS2.x.cell 5; have p0 := hS2.p.cell 0; have p1 := hS2.p.cell 1; have q1 := hS2.q.cell 1; have fq := hS2.q.frozen 1; simp only [Yl] at x0 x4 x5 p0 p1 q1; obtain ⟨hlies, hfr⟩ := hS2.nrow.at_ Hget.out; obtain ⟨y0, y1, y2, y3, y4, y5⟩ := hlies; have f4 := hfr 4 (by omega); have f5 := hfr 5 (by omega); clear hfr; have hz2 := hb2.size; simp only [World.size_alloc] at hz2; have hz2' := Nat.lt_of_succ_le hz2; have HS2 := hide hS2; clear hS2 hr2 hz2))
 go_roundg (l.length - (k + 1)); (case measure => (have := Hgk.out; omega)); (case rel => (have hS9 := HS2.out; exact ⟨k + 1, _, by omega, by go_num, rfl, by rw [splitTo_succ Hn.out, Hout.out, splitStep_two H0.out, Heq.out]; exact hS9.nrow, hS9.q, hS9.p, hS9.o, hS9.below⟩))))))
 · (
 have hkk : k = l.length := by omega
 subst hkk
 have r0 := hO.cell 0
 have r1 := hO.cell 1
 have r2 := hO.frozen 0
 have r3 := hO.frozen 1
 have q0 := hQ.cell 0
 have q1 := hQ.cell 1
 have p0 := hP.cell 0
 have p1 := hP.cell 1
 simp only [Yl] at r0 r1 q0 q1 p0 p1
 have hne2 := hN.ne_blk hO (by decide)
 obtain ⟨A2, c2, hv2, _, _⟩ := hN.shape
 subst hv2
 have HN := hide hN
 have HQ := hide hQ
 have HO := hide hO
 have HP := hide hP
 have Hne := hide hne2
 clear hN hQ hO hP hA hne2
 by_cases hbig : 256 < (splitTo l l.length).length
 · (
 go_wp2_with fail
 go_tidy
 refine bodyPost_ret (v := .tuple #[.agg #[.int .i64 0, .slice none 0 0], .int .i64 2]) (by simp [results, Tryz.results50, go_sem, r0, r1, World.cell?_setCell_same, World.cell?_setCell_other]) rfl ?_
 exact ⟨(hB.setCell (by simp) _).setCell (by simp) _, .inl ⟨hbig, rfl⟩⟩)
 · (
 go_wp2_with fail
 go_tidy
 refine bodyPost_ret (v := .tuple #[.agg #[.int .i64 regs, .slice A2 (splitTo l l.length).length c2], .int .i64 0]) (by simp [results, Tryz.results50, go_sem, r0, r1, World.cell?_setCell_same, World.cell?_setCell_other]) rfl ?_
 exact ⟨(hB.setCell (by simp) _).setCell (by simp) _, .inr ⟨Nat.le_of_not_lt hbig, _, rfl, (HN.out.far Hne.out _).far Hne.out _⟩⟩))))
end
end Go.Proofs.YtmghkonmfbpjcabGreat
