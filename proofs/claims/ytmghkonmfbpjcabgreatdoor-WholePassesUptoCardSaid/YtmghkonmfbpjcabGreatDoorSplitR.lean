/- Parts. -/
import Derived.Test.YtmghkonmfbpjcabGreatDoorGE
set_option linter.unusedVariables false
set_option linter.unusedSimpArgs false
set_option maxRecDepth 100000
set_option maxHeartbeats 40000000
namespace Go.Proofs.YtmghkonmfbpjcabGreatDoor
open Go.RowKit
open Go.Proofs.Tryz
section
attribute [local irreducible] Row madeCells
def bKT (t : TypeId) (regs : Int) (l : List Nd) (w : World) (e : Ending) (w' : World) : Prop :=
 Below w.heap.size w w' ∧ ((256 < (gA l).length ∧ e = .returned (.tuple #[.agg #[.int .i64 0, .slice none 0 0], .int .i64 2])) ∨
  ((gA l).length ≤ 256 ∧ ∃ v, e = .returned (.tuple #[.agg #[.int .i64 regs, v], .int .i64 0]) ∧ cO w' w.heap.size t v (gA l)))
theorem bO.at_ {w : World} {base g n cap k : Nat} {e : TypeId} {l : List Nd} {y : Nd} (h : cO w base e (.slice (some ⟨g, 0, none⟩) n cap) l) (hk : l[k]? = some y) : y.lies w g (k * 6) ∧ ∀ j, j < 6 → w.frozen? ⟨g, k * 6 + j, none⟩ = false := by (
 have hlt : k < l.length := (List.getElem?_eq_some_iff.1 hk).1
 obtain ⟨g', c', y', ev, _, _, hy, hl, hf⟩ := h.get hlt
 injection ev with ev
 injection ev with ev
 injection ev with ev
 subst ev
 rw [hk] at hy
 injection hy with hy
 subst hy
 exact ⟨hl, fun j hj => hf _ Zb⟩)
structure oD (tN tP : TypeId) (B bQ bX : Nat) (w : World) (regs : Int) (pv : Value) (xc : Array Value) (W : World) (v : Value) (out : List Nd) : Prop where
 nrow : cO W B tN v out
 q : Blk W bQ tP #[.int .i64 regs, v]
 x : Blk W bX tN xc
 p : Blk W B tP #[.int .i64 regs, pv]
 o : Blk W (B + 1) tP #[.int .i64 0, .slice none 0 0]
 below : Below B w W
 bq : B + 1 < bQ
 nx : v.ownBlock ≠ some bX
 sz : B ≤ W.heap.size
section
variable {tN tP : TypeId} {B bQ bX : Nat} {w W W' : World} {regs : Int} {pv v : Value} {xc : Array Value} {out : List Nd}
theorem oD.later (h : oD tN tP B bQ bX w regs pv xc W v out) (hb : Below W.heap.size W W') : oD tN tP B bQ bX w regs pv xc W' v out :=
 ⟨h.nrow.below' hb, h.q.below hb h.q.lt, h.x.below hb h.x.lt, h.p.below hb h.p.lt, h.o.below hb h.o.lt, h.below.trans (hb.mono h.sz), h.bq, h.nx, Nat.le_trans h.sz hb.size⟩
theorem oD.store {g n cap : Nat} (h : oD tN tP B bQ bX w regs pv xc W (.slice (some ⟨g, 0, none⟩) n cap) out) (hne : tN ≠ tP) {k j : Nat} {y : Nd} (hk : out[k]? = some y) (hj : j < 6) (z : Int) :
 oD tN tP B bQ bX w regs pv xc (W.setCell ⟨g, k * 6 + j, none⟩ (.int .i64 z)) (.slice (some ⟨g, 0, none⟩) n cap) (out.set k (y.put j z)) := by (
 have n1 := h.nrow.ne_blk h.q hne
 have n2 := h.nrow.ne_blk h.p hne
 have n3 := h.nrow.ne_blk h.o hne
 have n4 := h.nx
 simp only [Value.ownBlock, ne_eq, Option.some.injEq] at n1 n2 n3 n4
 exact ⟨h.nrow.store hk hj z, h.q.far (Ne.symm n1) _, h.x.far (Ne.symm n4) _, h.p.far (Ne.symm n2) _, h.o.far (Ne.symm n3) _, h.below.setCell (h.nrow.lt g rfl).1 _, h.bq, h.nx, by simpa using h.sz⟩)
theorem oD.store2 {g n cap : Nat} (h : oD tN tP B bQ bX w regs pv xc W (.slice (some ⟨g, 0, none⟩) n cap) out) (hne : tN ≠ tP) {k : Nat} {y : Nd} (hko : k < out.length) (hk : out[k]? = some y) (z z' : Int) :
 oD tN tP B bQ bX w regs pv xc ((W.setCell ⟨g, k * 6 + 4, none⟩ (.int .i64 z)).setCell ⟨g, k * 6 + 5, none⟩ (.int .i64 z')) (.slice (some ⟨g, 0, none⟩) n cap) (out.set k ((y.put 4 z).put 5 z')) := by (
 have h2 := (h.store hne hk (show 4 < 6 by omega) z).store hne (show (out.set k (y.put 4 z))[k]? = some (y.put 4 z) by rw [List.getElem?_set]; simp [hko]) (show 5 < 6 by omega) z'
 rwa [List.set_set] at h2)
theorem oD.mid {o : Obj} {W2 : World} (h : oD tN tP B bQ bX w regs pv xc W v out) (hne : tN ≠ tP) (hg : (W.alloc o).grownBy W2 v.ownBlock) : Blk W2 bQ tP #[.int .i64 regs, v] :=
 Blk.grown (h.q.alloc _) hg (h.nrow.ne_blk h.q hne)
theorem oD.midx {o : Obj} {W2 : World} (h : oD tN tP B bQ bX w regs pv xc W v out) (hg : (W.alloc o).grownBy W2 v.ownBlock) : Blk W2 bX tN xc := Blk.grown (h.x.alloc _) hg h.nx
theorem oD.midp {o : Obj} {W2 : World} (h : oD tN tP B bQ bX w regs pv xc W v out) (hne : tN ≠ tP) (hg : (W.alloc o).grownBy W2 v.ownBlock) : Blk W2 B tP #[.int .i64 regs, pv] := Blk.grown (h.p.alloc _) hg (h.nrow.ne_blk h.p hne)
theorem oD.append {o : Obj} {W2 : World} {v2 : Value} {news : List Nd} (h : oD tN tP B bQ bX w regs pv xc W v out) (hne : tN ≠ tP) (hr : cO W2 B tN v2 (out ++ news)) (hg : (W.alloc o).grownBy W2 v.ownBlock)
 (hat : v2.ownBlock = v.ownBlock ∨ ∀ k, v2.ownBlock = some k → (W.alloc o).heap.size ≤ k) : oD tN tP B bQ bX w regs pv xc (W2.setCell ⟨bQ, 1, none⟩ v2) v2 (out ++ news) := by (
 have hq2 := h.mid hne hg
 have hx2 : Blk W2 bX tN xc := Blk.grown (h.x.alloc _) hg h.nx
 refine ⟨hr.far (hr.ne_blk hq2 hne) _, hq2.set_ 1 _, hx2.far (hx2.ne_ hq2 hne) _, (Blk.grown (h.p.alloc _) hg (h.nrow.ne_blk h.p hne)).far X7 _, (Blk.grown (h.o.alloc _) hg (h.nrow.ne_blk h.o hne)).far X7 _,
  ((h.below.alloc h.sz o).grown hg (by have := h.sz; simp <;> omega) (fun q hq => (h.nrow.lt q hq).1)).setCell X7 _, h.bq, ?_, ?_⟩
 · (
 rcases hat with e | e
 · rw [e]; exact h.nx
 · (
 intro hb
 have := e bX hb
 have := h.x.lt
 simp at *
 omega))
 · (
 have := hg.size
 have := h.sz
 simp at *
 omega))
end
theorem uN (regs : Int) (A : Option Addr) (l : List Nd) (cap : Nat) (w : World) (hA : bH w A l) (hR : bM regs l) :
 Calls prog 16 #[.agg #[.int .i64 regs, .slice A l.length cap]] w (bKT 39 regs l w) := by (
 have hlo := hR.lo
 have hhi := hR.hi
 have hO := fun W (hW : Below w.heap.size w W) => kG regs A l cap W (hA.below hW) Zb
 have hH : ∀ W (m : Int) (h0 : 0 ≤ m) (hm : m < l.length) (hW : Below w.heap.size w W), Calls prog 40 #[.agg #[.int .i64 regs, .slice A l.length cap], .int .i64 m] W (bBH W.heap.size 3 (bN (sel (fO l m.toNat) l.length)) W) := fun W m h0 hm hW => by (
 obtain ⟨q, rfl⟩ := V7 h0
 have := uO regs A l cap W q Zb hhi (hA.below hW)
 simpa using this)
 have HO := bA hO
 have HH := bA hH
 have HR := bA hR
 clear hO hR hH
 obtain ⟨i3, h3i, h3z, h3s, h3b⟩ := info_parts iG
 go_enter func16, ntmps16
 go_wp2_with fail
 refine (HO.o _ Yc).mono ?_
 rintro e w1 ⟨v1, rfl, hN1, hb1⟩
 obtain ⟨A1, c1, rfl, _, _⟩ := hN1.shape
 refine Ky fun hz1 hP1 hO1 hB1 => ?_
 have hN1' := hN1.mono (base' := w.heap.size) Zd
 clear hb1 HO hN1
 go_wp2_with fail
 go_loopg [5] (l.length) (fun gk i wr => ∃ (k : Nat) (v : Value), k ≤ l.length ∧ i = .int .i64 k ∧ gk = l.length - k ∧ cO wr w.heap.size 39 v (cK l k) ∧ Blk wr w1.heap.size 24 #[.int .i64 regs, v] ∧
  Blk wr w.heap.size 24 #[.int .i64 regs, .slice A l.length cap] ∧ Blk wr (w.heap.size + 1) 24 #[.int .i64 0, .slice none 0 0] ∧ Below w.heap.size w wr)
 case atStart => exact ⟨0, _, Nat.zero_le _, rfl, rfl, hN1'.alloc _, Yd, hP1.alloc _, hO1.alloc _, Yc⟩
 case round => (
 clear hN1' hP1 hO1 hB1
 obtain ⟨k, v, hk, rfl, hgk, hN, hQ, hP, hO, hB⟩ := hrel
 have Hgk := bA hgk
 have hz := hB.size
 have lq := hQ.lt
 have lo := hO.lt
 have lp := hP.lt
 have hle := mC l k
 clear hgk
 by_cases hlt : k < l.length
 · (
 obtain ⟨n, hn⟩ : ∃ n, l[k]? = some n := ⟨_, Vx hlt⟩
 obtain ⟨nb, no, n', rfl, hnb, hn', hnl⟩ := (hA.below hB).get (k := k) hlt
 rw [hn] at hn'
 injection hn' with hn'
 subst hn'
 obtain ⟨c0, c1, c2, c3, c4, c5⟩ := hnl
 have hm := V4 hn
 refine Wl fun p0 p1 => ?_
 refine Vf fun u0 u1 Hn => ?_
 have HN := bA hN
 have HQ := bA hQ
 have HP := bA hP
 have HO := bA hO
 clear hn hN hQ hP hO hA
 by_cases h0 : n.op = 0 ∨ n.op = 12
 · (
 have H0 := bA h0
 by_cases h00 : n.op = 0
 · (
 have t0 : (n.op == 0) = true := by simp [h00]
 clear h0 h00
 go_wp2_with fail
 go_roundg (l.length - (k + 1))
 case measure => exact Jg
 case rel => exact ⟨k + 1, v, Zb, by go_num, rfl, by rw [cR Hn.o, gE H0.o]; exact HN.o.alloc _, HQ.o.alloc _, HP.o.alloc _, HO.o.alloc _, Yc⟩)
 · (
 have t0 : (n.op == 0) = false := by simp [h00]
 have t12 : (n.op == 12) = true := by simp; omega
 clear h0 h00
 go_wp2_with fail
 go_roundg (l.length - (k + 1))
 case measure => exact Jg
 case rel => exact ⟨k + 1, v, Zb, by go_num, rfl, by rw [cR Hn.o, gE H0.o]; exact HN.o.alloc _, HQ.o.alloc _, HP.o.alloc _, HO.o.alloc _, Yc⟩))
 · (
 obtain ⟨t0, t1⟩ := HR.o.then_ hm Zb
 have t0' : 0 ≤ n.t := Zb
 have hway2 := fun h => HR.o.else_ hm h
 have b0 : (n.op == 0) = false := by simp; omega
 have b12 : (n.op == 12) = false := by simp; omega
 have H0 := bA h0
 have hS0 : oD 39 24 w.heap.size w1.heap.size wr.heap.size w regs (.slice (some ⟨nb, no, none⟩) l.length cap) #[.int .i64 n.op, .int .i64 n.d, .int .i64 n.a, .int .i64 n.b, .int .i64 n.t, .int .i64 n.e] (wr.alloc (.cells #[.int .i64 n.op, .int .i64 n.d, .int .i64 n.a, .int .i64 n.b, .int .i64 n.t, .int .i64 n.e] 39)) v (cK l k) :=
  ⟨HN.o.alloc _, HQ.o.alloc _, Blk.new _ _ _, HP.o.alloc _, HO.o.alloc _, hB.alloc hz _, Zb, fun e => by have := (HN.o.lt _ e).2; omega, by simp <;> omega⟩
 have hget : (cK l k)[k]? = some n := by rw [oZ l k k (Nat.le_refl _) hlt]; exact Hn.o
 have hB0 := hS0.below
 obtain ⟨g, cN, y, rfl, _, _, _, _, _⟩ := HN.o.get (k := k) Zb
 generalize hout : cK l k = out at *
 have hko : k < out.length := Zb
 have Hget := bA hget
 have Hout := bA hout
 have HS0 := bA hS0
 have HB0 := bA hB0
 clear h0 hget hS0 hB0 hout HN HQ HP HO
 by_cases hw : 2 ≤ (sel (fO l n.t.toNat) l.length).length
 · (
 by_cases h11 : n.op = 11
 · (
 obtain ⟨e0', e1⟩ := hway2 h11
 have e0 : 0 ≤ n.e := Zb
 have t11 : (n.op == 11) = true := by simp [h11]
 by_cases het : n.e = n.t
 · (
 have te : (n.e == n.t) = true := by simp [het]
 have te' : (n.e != n.t) = false := by simp [het]
 have heq : jC l k n (bY l n out.length) (fV l k n out) = out.set k ((n.put 4 out.length).put 5 out.length) ++ [cM n.t] := by (
 rw [jF (by simp [fF, te']) (pU hko)]; exact bFP hw ⟨h11, het⟩)
 have Heq := bA heq
 clear h11 het heq hway2 e0' e0 e1
 go_wp2_with (first | (at_builtin; have hS3 := (HS2.o.store2 Ze hko Hget.o (out.length : Int) (out.length : Int)); refine bK (v := .slice (some ⟨g, 0, none⟩) out.length cN) (l := (out.set k ((n.put 4 out.length).put 5 out.length))) (base := w.heap.size) rfl _ _ _ rfl i3 _ 48 underlying22 h3i h3z h3s h3b rfl rfl (bO.alloc hS3.nrow _) (some ⟨w2.heap.size, 0, none⟩) 1 1 [cM n.t] rfl rfl (cH Zf) Zq Zh Zh ?_; intro v4 w4 hr4 hg4 hat4; obtain ⟨g4, c4', y', ev, _, hgl4, hy4, hli4, hfr4⟩ := hr4.get (k := k) Zh; have hl1 : ((out.set k ((n.put 4 out.length).put 5 out.length)) ++ [cM n.t]).length = out.length + 1 := Zf; rw [hl1] at ev; subst ev; have hQ4 := hS3.mid Ze hg4; have r1 := hQ4.cell 1; have r2 := hQ4.frozen 1; have hX4 := hS3.midx hg4; have x0' := hX4.cell 0; have x4' := hX4.cell 4; have x5' := hX4.cell 5; have hP4 := hS3.midp Ze hg4; have p0' := hP4.cell 0; have p1' := hP4.cell 1; simp only [Yl] at r1 x0' x4' x5' p0' p1'; have hS5 := hS3.append Ze hr4 hg4 hat4; have HS5 := bA hS5; clear hS3 hS5 hr4 hat4 hli4 hfr4 hQ4 hX4 hP4) | (go_at_call 40; refine (HH.o _ n.t t0' t1 HB0.o).mono ?_; rintro e w2 ⟨v2, rfl, hr2, hb2⟩; obtain ⟨A2, c2, rfl, _, _⟩ := hr2.shape; rw [bJ]; have hS2 := HS0.o.later hb2; have nx2 : ¬ (g = wr.heap.size) := (fun e => hS2.nx Zv); have nx3 : ¬ (wr.heap.size = g) := (fun e => nx2 e.symm); have x0 := hS2.x.cell 0; have x4 := hS2.x.cell 4; have x5 := hS2.x.cell 5; have p0 := hS2.p.cell 0; have p1 := hS2.p.cell 1; have q1 := hS2.q.cell 1; have fq := hS2.q.frozen 1; simp only [Yl] at x0 x4 x5 p0 p1 q1; obtain ⟨hlies, hfr⟩ := hS2.nrow.at_ Hget.o; obtain ⟨y0, y1, y2, y3, y4, y5⟩ := hlies; have f4 := hfr 4 Zb; have f5 := hfr 5 Zb; clear hfr; have hz2 := hb2.size; simp only [World.size_alloc] at hz2; have hz2' := Nat.lt_of_succ_le hz2; have HS2 := bA hS2; clear hS2 hr2 hz2))
 go_roundg (l.length - (k + 1)); (case measure => (have := Hgk.o; omega)); (case rel => (have hS9 := HS5.o; exact ⟨k + 1, _, Zb, by go_num, rfl, by rw [cR Hn.o, Hout.o, eH H0.o, Heq.o]; exact hS9.nrow, hS9.q, hS9.p, hS9.o, hS9.below⟩)))
 · (
 have te : (n.e == n.t) = false := by simp [het]
 have te' : (n.e != n.t) = true := by simp [het]
 have hs1 : fV l k n out = out.set k (n.put 4 out.length) ++ [cM n.t] := vL hw (fun h => het h.2)
 have hg1 := pU (l := l) (n := n) hko
 have hx1 : bY l n out.length = n.put 4 out.length := by (
 unfold bY
 rw [if_pos (show 2 ≤ eE l n.t from hw), if_neg (fun h => het h.2)]
 rfl)
 rw [hx1, hs1] at hg1
 have Hg1 := bA hg1
 by_cases hwe : 2 ≤ (sel (fO l n.e.toNat) l.length).length
 · (
 have heq : jC l k n (bY l n out.length) (fV l k n out) = (out.set k (n.put 4 out.length) ++ [cM n.t]).set k ((n.put 4 out.length).put 5 ((out.length : Int) + 1)) ++ [cM n.e] := by (
 rw [vK (by simp [fF, t11, te']; exact hwe), hs1, hx1]; simp)
 have Heq := bA heq
 clear h11 het heq hs1 hx1 hg1 hway2 e0'
 go_wp2_with (first | (at_builtin; have hS8 := HS7.o.store Ze Hg1.o (show 5 < 6 by omega) ((out.length : Int) + 1); refine bK (v := .slice (some ⟨g4, 0, none⟩) (out.length + 1) c4') (l := (out.set k (n.put 4 out.length) ++ [cM n.t]).set k ((n.put 4 out.length).put 5 ((out.length : Int) + 1))) (base := w.heap.size) rfl _ _ _ rfl i3 _ 48 underlying22 h3i h3z h3s h3b rfl rfl (bO.alloc hS8.nrow _) (some ⟨w6.heap.size, 0, none⟩) 1 1 [cM n.e] rfl rfl (cH Zf) Zq Zh Zh ?_; intro v9 w9 hr9 hg9 hat9; obtain ⟨A9, c9, ev, _, _⟩ := hr9.shape; have hl2 : ((out.set k (n.put 4 out.length) ++ [cM n.t]).set k ((n.put 4 out.length).put 5 ((out.length : Int) + 1)) ++ [cM n.e]).length = (out.length + 1) + 1 := Zf; rw [hl2] at ev; subst ev; have hQ9 := hS8.mid Ze hg9; have s1 := hQ9.cell 1; have s2 := hQ9.frozen 1; simp only [Yl] at s1; have hSA := hS8.append Ze hr9 hg9 hat9; have HSA := bA hSA; clear hS8 hSA hr9 hat9 hQ9) | (at_builtin; have hS3 := HS2.o.store Ze Hget.o (show 4 < 6 by omega) (out.length : Int); refine bK (v := .slice (some ⟨g, 0, none⟩) out.length cN) (l := (out.set k (n.put 4 out.length))) (base := w.heap.size) rfl _ _ _ rfl i3 _ 48 underlying22 h3i h3z h3s h3b rfl rfl (bO.alloc hS3.nrow _) (some ⟨w2.heap.size, 0, none⟩) 1 1 [cM n.t] rfl rfl (cH Zf) Zq Zh Zh ?_; intro v4 w4 hr4 hg4 hat4; obtain ⟨g4, c4', y', ev, _, hgl4, hy4, hli4, hfr4⟩ := hr4.get (k := k) Zh; have hl1 : ((out.set k (n.put 4 out.length)) ++ [cM n.t]).length = out.length + 1 := Zf; rw [hl1] at ev; subst ev; have hQ4 := hS3.mid Ze hg4; have r1 := hQ4.cell 1; have r2 := hQ4.frozen 1; have hX4 := hS3.midx hg4; have x0' := hX4.cell 0; have x4' := hX4.cell 4; have x5' := hX4.cell 5; have hP4 := hS3.midp Ze hg4; have p0' := hP4.cell 0; have p1' := hP4.cell 1; simp only [Yl] at r1 x0' x4' x5' p0' p1'; have hS5 := hS3.append Ze hr4 hg4 hat4; have HS5 := bA hS5; clear hS3 hS5 hr4 hat4 hli4 hfr4 hQ4 hX4 hP4) | (go_at_call 40; refine (HH.o _ n.e e0 e1 (HS5.o.below)).mono ?_; rintro e w6 ⟨v6, rfl, hr6, hb6⟩; obtain ⟨A6, c6, rfl, _, _⟩ := hr6.shape; rw [bJ]; have hS7 := HS5.o.later hb6; have sz7 := hS7.sz; have nx7 : ¬ (g4 = wr.heap.size) := (fun e => hS7.nx Zv); have nx8 : ¬ (wr.heap.size = g4) := (fun e => nx7 e.symm); have x0 := hS7.x.cell 0; have x4 := hS7.x.cell 4; have x5 := hS7.x.cell 5; have p0 := hS7.p.cell 0; have p1 := hS7.p.cell 1; have q1 := hS7.q.cell 1; have fq := hS7.q.frozen 1; simp only [Yl] at x0 x4 x5 p0 p1 q1; obtain ⟨hlies, hfr⟩ := hS7.nrow.at_ Hg1.o; obtain ⟨y0, y1, y2, y3, y4, y5⟩ := hlies; have f4 := hfr 4 Zb; have f5 := hfr 5 Zb; clear hfr; have HS7 := bA hS7; clear hS7 hr6) | (go_at_call 40; refine (HH.o _ n.t t0' t1 HB0.o).mono ?_; rintro e w2 ⟨v2, rfl, hr2, hb2⟩; obtain ⟨A2, c2, rfl, _, _⟩ := hr2.shape; rw [bJ]; have hS2 := HS0.o.later hb2; have nx2 : ¬ (g = wr.heap.size) := (fun e => hS2.nx Zv); have nx3 : ¬ (wr.heap.size = g) := (fun e => nx2 e.symm); have x0 := hS2.x.cell 0; have x4 := hS2.x.cell 4; have x5 := hS2.x.cell 5; have p0 := hS2.p.cell 0; have p1 := hS2.p.cell 1; have q1 := hS2.q.cell 1; have fq := hS2.q.frozen 1; simp only [Yl] at x0 x4 x5 p0 p1 q1; obtain ⟨hlies, hfr⟩ := hS2.nrow.at_ Hget.o; obtain ⟨y0, y1, y2, y3, y4, y5⟩ := hlies; have f4 := hfr 4 Zb; have f5 := hfr 5 Zb; clear hfr; have hz2 := hb2.size; simp only [World.size_alloc] at hz2; have hz2' := Nat.lt_of_succ_le hz2; have HS2 := bA hS2; clear hS2 hr2 hz2))
 go_roundg (l.length - (k + 1)); (case measure => (have := Hgk.o; omega)); (case rel => (have hS9 := HSA.o; exact ⟨k + 1, _, Zb, by go_num, rfl, by rw [cR Hn.o, Hout.o, eH H0.o, Heq.o]; exact hS9.nrow, hS9.q, hS9.p, hS9.o, hS9.below⟩)))
 · (
 have heq : jC l k n (bY l n out.length) (fV l k n out) = out.set k (n.put 4 out.length) ++ [cM n.t] := by (
 rw [jF (by have hw' : ¬ 2 ≤ eE l n.e := hwe; simp [fF, hw']) (pU hko)]; exact hs1)
 have Heq := bA heq
 clear h11 het heq hs1 hx1 hg1 hway2 e0'
 go_wp2_with (first | (at_builtin; have hS3 := HS2.o.store Ze Hget.o (show 4 < 6 by omega) (out.length : Int); refine bK (v := .slice (some ⟨g, 0, none⟩) out.length cN) (l := (out.set k (n.put 4 out.length))) (base := w.heap.size) rfl _ _ _ rfl i3 _ 48 underlying22 h3i h3z h3s h3b rfl rfl (bO.alloc hS3.nrow _) (some ⟨w2.heap.size, 0, none⟩) 1 1 [cM n.t] rfl rfl (cH Zf) Zq Zh Zh ?_; intro v4 w4 hr4 hg4 hat4; obtain ⟨g4, c4', y', ev, _, hgl4, hy4, hli4, hfr4⟩ := hr4.get (k := k) Zh; have hl1 : ((out.set k (n.put 4 out.length)) ++ [cM n.t]).length = out.length + 1 := Zf; rw [hl1] at ev; subst ev; have hQ4 := hS3.mid Ze hg4; have r1 := hQ4.cell 1; have r2 := hQ4.frozen 1; have hX4 := hS3.midx hg4; have x0' := hX4.cell 0; have x4' := hX4.cell 4; have x5' := hX4.cell 5; have hP4 := hS3.midp Ze hg4; have p0' := hP4.cell 0; have p1' := hP4.cell 1; simp only [Yl] at r1 x0' x4' x5' p0' p1'; have hS5 := hS3.append Ze hr4 hg4 hat4; have HS5 := bA hS5; clear hS3 hS5 hr4 hat4 hli4 hfr4 hQ4 hX4 hP4) | (go_at_call 40; refine (HH.o _ n.e e0 e1 (HS5.o.below)).mono ?_; rintro e w6 ⟨v6, rfl, hr6, hb6⟩; obtain ⟨A6, c6, rfl, _, _⟩ := hr6.shape; rw [bJ]; have hS7 := HS5.o.later hb6; have sz7 := hS7.sz; have nx7 : ¬ (g4 = wr.heap.size) := (fun e => hS7.nx Zv); have nx8 : ¬ (wr.heap.size = g4) := (fun e => nx7 e.symm); have x0 := hS7.x.cell 0; have x4 := hS7.x.cell 4; have x5 := hS7.x.cell 5; have p0 := hS7.p.cell 0; have p1 := hS7.p.cell 1; have q1 := hS7.q.cell 1; have fq := hS7.q.frozen 1; simp only [Yl] at x0 x4 x5 p0 p1 q1; obtain ⟨hlies, hfr⟩ := hS7.nrow.at_ Hg1.o; obtain ⟨y0, y1, y2, y3, y4, y5⟩ := hlies; have f4 := hfr 4 Zb; have f5 := hfr 5 Zb; clear hfr; have HS7 := bA hS7; clear hS7 hr6) | (go_at_call 40; refine (HH.o _ n.t t0' t1 HB0.o).mono ?_; rintro e w2 ⟨v2, rfl, hr2, hb2⟩; obtain ⟨A2, c2, rfl, _, _⟩ := hr2.shape; rw [bJ]; have hS2 := HS0.o.later hb2; have nx2 : ¬ (g = wr.heap.size) := (fun e => hS2.nx Zv); have nx3 : ¬ (wr.heap.size = g) := (fun e => nx2 e.symm); have x0 := hS2.x.cell 0; have x4 := hS2.x.cell 4; have x5 := hS2.x.cell 5; have p0 := hS2.p.cell 0; have p1 := hS2.p.cell 1; have q1 := hS2.q.cell 1; have fq := hS2.q.frozen 1; simp only [Yl] at x0 x4 x5 p0 p1 q1; obtain ⟨hlies, hfr⟩ := hS2.nrow.at_ Hget.o; obtain ⟨y0, y1, y2, y3, y4, y5⟩ := hlies; have f4 := hfr 4 Zb; have f5 := hfr 5 Zb; clear hfr; have hz2 := hb2.size; simp only [World.size_alloc] at hz2; have hz2' := Nat.lt_of_succ_le hz2; have HS2 := bA hS2; clear hS2 hr2 hz2))
 go_roundg (l.length - (k + 1)); (case measure => (have := Hgk.o; omega)); (case rel => (have hS9 := HS7.o; exact ⟨k + 1, _, Zb, by go_num, rfl, by rw [cR Hn.o, Hout.o, eH H0.o, Heq.o]; exact hS9.nrow, hS9.q, hS9.p, hS9.o, hS9.below⟩)))))
 · (
 have t11 : (n.op == 11) = false := by simp [h11]
 have heq : jC l k n (bY l n out.length) (fV l k n out) = out.set k (n.put 4 out.length) ++ [cM n.t] := by (
 rw [jF (by simp [fF, t11]) (pU hko)]; exact vL hw (fun h => h11 h.1))
 have Heq := bA heq
 clear h11 heq hway2
 go_wp2_with (first | (at_builtin; have hS3 := HS2.o.store Ze Hget.o (show 4 < 6 by omega) (out.length : Int); refine bK (v := .slice (some ⟨g, 0, none⟩) out.length cN) (l := (out.set k (n.put 4 out.length))) (base := w.heap.size) rfl _ _ _ rfl i3 _ 48 underlying22 h3i h3z h3s h3b rfl rfl (bO.alloc hS3.nrow _) (some ⟨w2.heap.size, 0, none⟩) 1 1 [cM n.t] rfl rfl (cH Zf) Zq Zh Zh ?_; intro v4 w4 hr4 hg4 hat4; obtain ⟨g4, c4', y', ev, _, hgl4, hy4, hli4, hfr4⟩ := hr4.get (k := k) Zh; have hl1 : ((out.set k (n.put 4 out.length)) ++ [cM n.t]).length = out.length + 1 := Zf; rw [hl1] at ev; subst ev; have hQ4 := hS3.mid Ze hg4; have r1 := hQ4.cell 1; have r2 := hQ4.frozen 1; have hX4 := hS3.midx hg4; have x0' := hX4.cell 0; have x4' := hX4.cell 4; have x5' := hX4.cell 5; have hP4 := hS3.midp Ze hg4; have p0' := hP4.cell 0; have p1' := hP4.cell 1; simp only [Yl] at r1 x0' x4' x5' p0' p1'; have hS5 := hS3.append Ze hr4 hg4 hat4; have HS5 := bA hS5; clear hS3 hS5 hr4 hat4 hli4 hfr4 hQ4 hX4 hP4) | (go_at_call 40; refine (HH.o _ n.t t0' t1 HB0.o).mono ?_; rintro e w2 ⟨v2, rfl, hr2, hb2⟩; obtain ⟨A2, c2, rfl, _, _⟩ := hr2.shape; rw [bJ]; have hS2 := HS0.o.later hb2; have nx2 : ¬ (g = wr.heap.size) := (fun e => hS2.nx Zv); have nx3 : ¬ (wr.heap.size = g) := (fun e => nx2 e.symm); have x0 := hS2.x.cell 0; have x4 := hS2.x.cell 4; have x5 := hS2.x.cell 5; have p0 := hS2.p.cell 0; have p1 := hS2.p.cell 1; have q1 := hS2.q.cell 1; have fq := hS2.q.frozen 1; simp only [Yl] at x0 x4 x5 p0 p1 q1; obtain ⟨hlies, hfr⟩ := hS2.nrow.at_ Hget.o; obtain ⟨y0, y1, y2, y3, y4, y5⟩ := hlies; have f4 := hfr 4 Zb; have f5 := hfr 5 Zb; clear hfr; have hz2 := hb2.size; simp only [World.size_alloc] at hz2; have hz2' := Nat.lt_of_succ_le hz2; have HS2 := bA hS2; clear hS2 hr2 hz2))
 go_roundg (l.length - (k + 1)); (case measure => (have := Hgk.o; omega)); (case rel => (have hS9 := HS5.o; exact ⟨k + 1, _, Zb, by go_num, rfl, by rw [cR Hn.o, Hout.o, eH H0.o, Heq.o]; exact hS9.nrow, hS9.q, hS9.p, hS9.o, hS9.below⟩))))
 · (
 have hs1 : fV l k n out = out := bFO hw Hget.o
 have hx1 : bY l n out.length = n := by (
 unfold bY
 rw [if_neg (show ¬ 2 ≤ eE l n.t from hw)])
 by_cases h11 : n.op = 11
 · (
 obtain ⟨e0', e1⟩ := hway2 h11
 have e0 : 0 ≤ n.e := Zb
 have t11 : (n.op == 11) = true := by simp [h11]
 by_cases het : n.e = n.t
 · (
 have te : (n.e == n.t) = true := by simp [het]
 have te' : (n.e != n.t) = false := by simp [het]
 have heq : jC l k n (bY l n out.length) (fV l k n out) = out := by (
 rw [hs1, hx1]; exact jF (by simp [fF, te']) Hget.o)
 have Heq := bA heq
 clear h11 het heq hway2 e0' e0 e1 hs1 hx1
 go_wp2_with (first | (go_at_call 40; refine (HH.o _ n.t t0' t1 HB0.o).mono ?_; rintro e w2 ⟨v2, rfl, hr2, hb2⟩; obtain ⟨A2, c2, rfl, _, _⟩ := hr2.shape; rw [bJ]; have hS2 := HS0.o.later hb2; have nx2 : ¬ (g = wr.heap.size) := (fun e => hS2.nx Zv); have nx3 : ¬ (wr.heap.size = g) := (fun e => nx2 e.symm); have x0 := hS2.x.cell 0; have x4 := hS2.x.cell 4; have x5 := hS2.x.cell 5; have p0 := hS2.p.cell 0; have p1 := hS2.p.cell 1; have q1 := hS2.q.cell 1; have fq := hS2.q.frozen 1; simp only [Yl] at x0 x4 x5 p0 p1 q1; obtain ⟨hlies, hfr⟩ := hS2.nrow.at_ Hget.o; obtain ⟨y0, y1, y2, y3, y4, y5⟩ := hlies; have f4 := hfr 4 Zb; have f5 := hfr 5 Zb; clear hfr; have hz2 := hb2.size; simp only [World.size_alloc] at hz2; have hz2' := Nat.lt_of_succ_le hz2; have HS2 := bA hS2; clear hS2 hr2 hz2))
 go_roundg (l.length - (k + 1)); (case measure => (have := Hgk.o; omega)); (case rel => (have hS9 := HS2.o; exact ⟨k + 1, _, Zb, by go_num, rfl, by rw [cR Hn.o, Hout.o, eH H0.o, Heq.o]; exact hS9.nrow, hS9.q, hS9.p, hS9.o, hS9.below⟩)))
 · (
 have te : (n.e == n.t) = false := by simp [het]
 have te' : (n.e != n.t) = true := by simp [het]
 by_cases hwe : 2 ≤ (sel (fO l n.e.toNat) l.length).length
 · (
 have heq : jC l k n (bY l n out.length) (fV l k n out) = out.set k (n.put 5 out.length) ++ [cM n.e] := by (
 rw [vK (by simp [fF, t11, te']; exact hwe), hs1, hx1])
 have Heq := bA heq
 clear h11 het heq hs1 hx1 hway2 e0'
 go_wp2_with (first | (at_builtin; have hS8 := HS7.o.store Ze Hget.o (show 5 < 6 by omega) (out.length : Int); refine bK (v := .slice (some ⟨g, 0, none⟩) out.length cN) (l := out.set k (n.put 5 out.length)) (base := w.heap.size) rfl _ _ _ rfl i3 _ 48 underlying22 h3i h3z h3s h3b rfl rfl (bO.alloc hS8.nrow _) (some ⟨w6.heap.size, 0, none⟩) 1 1 [cM n.e] rfl rfl (cH Zf) Zq Zh Zh ?_; intro v9 w9 hr9 hg9 hat9; obtain ⟨A9, c9, ev, _, _⟩ := hr9.shape; have hl2 : (out.set k (n.put 5 out.length) ++ [cM n.e]).length = out.length + 1 := Zf; rw [hl2] at ev; subst ev; have hQ9 := hS8.mid Ze hg9; have s1 := hQ9.cell 1; have s2 := hQ9.frozen 1; simp only [Yl] at s1; have hSA := hS8.append Ze hr9 hg9 hat9; have HSA := bA hSA; clear hS8 hSA hr9 hat9 hQ9) | (go_at_call 40; refine (HH.o _ n.e e0 e1 (HS2.o.below)).mono ?_; rintro e w6 ⟨v6, rfl, hr6, hb6⟩; obtain ⟨A6, c6, rfl, _, _⟩ := hr6.shape; rw [bJ]; have hS7 := HS2.o.later hb6; have sz7 := hS7.sz; have nx7 : ¬ (g = wr.heap.size) := (fun e => hS7.nx Zv); have nx8 : ¬ (wr.heap.size = g) := (fun e => nx7 e.symm); have x0 := hS7.x.cell 0; have x4 := hS7.x.cell 4; have x5 := hS7.x.cell 5; have p0 := hS7.p.cell 0; have p1 := hS7.p.cell 1; have q1 := hS7.q.cell 1; have fq := hS7.q.frozen 1; simp only [Yl] at x0 x4 x5 p0 p1 q1; obtain ⟨hlies, hfr⟩ := hS7.nrow.at_ Hget.o; obtain ⟨y0, y1, y2, y3, y4, y5⟩ := hlies; have f4 := hfr 4 Zb; have f5 := hfr 5 Zb; clear hfr; have HS7 := bA hS7; clear hS7 hr6) | (go_at_call 40; refine (HH.o _ n.t t0' t1 HB0.o).mono ?_; rintro e w2 ⟨v2, rfl, hr2, hb2⟩; obtain ⟨A2, c2, rfl, _, _⟩ := hr2.shape; rw [bJ]; have hS2 := HS0.o.later hb2; have nx2 : ¬ (g = wr.heap.size) := (fun e => hS2.nx Zv); have nx3 : ¬ (wr.heap.size = g) := (fun e => nx2 e.symm); have x0 := hS2.x.cell 0; have x4 := hS2.x.cell 4; have x5 := hS2.x.cell 5; have p0 := hS2.p.cell 0; have p1 := hS2.p.cell 1; have q1 := hS2.q.cell 1; have fq := hS2.q.frozen 1; simp only [Yl] at x0 x4 x5 p0 p1 q1; obtain ⟨hlies, hfr⟩ := hS2.nrow.at_ Hget.o; obtain ⟨y0, y1, y2, y3, y4, y5⟩ := hlies; have f4 := hfr 4 Zb; have f5 := hfr 5 Zb; clear hfr; have hz2 := hb2.size; simp only [World.size_alloc] at hz2; have hz2' := Nat.lt_of_succ_le hz2; have HS2 := bA hS2; clear hS2 hr2 hz2))
 go_roundg (l.length - (k + 1)); (case measure => (have := Hgk.o; omega)); (case rel => (have hS9 := HSA.o; exact ⟨k + 1, _, Zb, by go_num, rfl, by rw [cR Hn.o, Hout.o, eH H0.o, Heq.o]; exact hS9.nrow, hS9.q, hS9.p, hS9.o, hS9.below⟩)))
 · (
 have heq : jC l k n (bY l n out.length) (fV l k n out) = out := by (
 rw [hs1, hx1]; exact jF (by have hw' : ¬ 2 ≤ eE l n.e := hwe; simp [fF, hw']) Hget.o)
 have Heq := bA heq
 clear h11 het heq hs1 hx1 hway2 e0'
 go_wp2_with (first | (go_at_call 40; refine (HH.o _ n.e e0 e1 (HS2.o.below)).mono ?_; rintro e w6 ⟨v6, rfl, hr6, hb6⟩; obtain ⟨A6, c6, rfl, _, _⟩ := hr6.shape; rw [bJ]; have hS7 := HS2.o.later hb6; have sz7 := hS7.sz; have nx7 : ¬ (g = wr.heap.size) := (fun e => hS7.nx Zv); have nx8 : ¬ (wr.heap.size = g) := (fun e => nx7 e.symm); have x0 := hS7.x.cell 0; have x4 := hS7.x.cell 4; have x5 := hS7.x.cell 5; have p0 := hS7.p.cell 0; have p1 := hS7.p.cell 1; have q1 := hS7.q.cell 1; have fq := hS7.q.frozen 1; simp only [Yl] at x0 x4 x5 p0 p1 q1; obtain ⟨hlies, hfr⟩ := hS7.nrow.at_ Hget.o; obtain ⟨y0, y1, y2, y3, y4, y5⟩ := hlies; have f4 := hfr 4 Zb; have f5 := hfr 5 Zb; clear hfr; have HS7 := bA hS7; clear hS7 hr6) | (go_at_call 40; refine (HH.o _ n.t t0' t1 HB0.o).mono ?_; rintro e w2 ⟨v2, rfl, hr2, hb2⟩; obtain ⟨A2, c2, rfl, _, _⟩ := hr2.shape; rw [bJ]; have hS2 := HS0.o.later hb2; have nx2 : ¬ (g = wr.heap.size) := (fun e => hS2.nx Zv); have nx3 : ¬ (wr.heap.size = g) := (fun e => nx2 e.symm); have x0 := hS2.x.cell 0; have x4 := hS2.x.cell 4; have x5 := hS2.x.cell 5; have p0 := hS2.p.cell 0; have p1 := hS2.p.cell 1; have q1 := hS2.q.cell 1; have fq := hS2.q.frozen 1; simp only [Yl] at x0 x4 x5 p0 p1 q1; obtain ⟨hlies, hfr⟩ := hS2.nrow.at_ Hget.o; obtain ⟨y0, y1, y2, y3, y4, y5⟩ := hlies; have f4 := hfr 4 Zb; have f5 := hfr 5 Zb; clear hfr; have hz2 := hb2.size; simp only [World.size_alloc] at hz2; have hz2' := Nat.lt_of_succ_le hz2; have HS2 := bA hS2; clear hS2 hr2 hz2))
 go_roundg (l.length - (k + 1)); (case measure => (have := Hgk.o; omega)); (case rel => (have hS9 := HS7.o; exact ⟨k + 1, _, Zb, by go_num, rfl, by rw [cR Hn.o, Hout.o, eH H0.o, Heq.o]; exact hS9.nrow, hS9.q, hS9.p, hS9.o, hS9.below⟩)))))
 · (
 have t11 : (n.op == 11) = false := by simp [h11]
 have heq : jC l k n (bY l n out.length) (fV l k n out) = out := by (
 rw [hs1, hx1]; exact jF (by simp [fF, t11]) Hget.o)
 have Heq := bA heq
 clear h11 heq hway2 hs1 hx1
 go_wp2_with (first | (go_at_call 40; refine (HH.o _ n.t t0' t1 HB0.o).mono ?_; rintro e w2 ⟨v2, rfl, hr2, hb2⟩; obtain ⟨A2, c2, rfl, _, _⟩ := hr2.shape; rw [bJ]; have hS2 := HS0.o.later hb2; have nx2 : ¬ (g = wr.heap.size) := (fun e => hS2.nx Zv); have nx3 : ¬ (wr.heap.size = g) := (fun e => nx2 e.symm); have x0 := hS2.x.cell 0; have x4 := hS2.x.cell 4; have x5 := hS2.x.cell 5; have p0 := hS2.p.cell 0; have p1 := hS2.p.cell 1; have q1 := hS2.q.cell 1; have fq := hS2.q.frozen 1; simp only [Yl] at x0 x4 x5 p0 p1 q1; obtain ⟨hlies, hfr⟩ := hS2.nrow.at_ Hget.o; obtain ⟨y0, y1, y2, y3, y4, y5⟩ := hlies; have f4 := hfr 4 Zb; have f5 := hfr 5 Zb; clear hfr; have hz2 := hb2.size; simp only [World.size_alloc] at hz2; have hz2' := Nat.lt_of_succ_le hz2; have HS2 := bA hS2; clear hS2 hr2 hz2))
 go_roundg (l.length - (k + 1)); (case measure => (have := Hgk.o; omega)); (case rel => (have hS9 := HS2.o; exact ⟨k + 1, _, Zb, by go_num, rfl, by rw [cR Hn.o, Hout.o, eH H0.o, Heq.o]; exact hS9.nrow, hS9.q, hS9.p, hS9.o, hS9.below⟩))))))
 · (
 have hkk : k = l.length := Zb
 subst hkk
 have r0 := hO.cell 0
 have r1 := hO.cell 1
 have r2 := hO.frozen 0
 have r3 := hO.frozen 1
 have q0 := hQ.cell 0
 have q1 := hQ.cell 1
 have p0 := hP.cell 0
 have p1 := hP.cell 1
 simp only [Yl] at r0 r1 q0 q1 p0 p1
 have hne2 := hN.ne_blk hO Ze
 obtain ⟨A2, c2, hv2, _, _⟩ := hN.shape
 subst hv2
 have HN := bA hN
 have HQ := bA hQ
 have HO := bA hO
 have HP := bA hP
 have Hne := bA hne2
 clear hN hQ hO hP hA hne2
 by_cases hbig : 256 < (cK l l.length).length
 · (
 go_wp2_with fail
 go_tidy
 refine bodyPost_ret (v := .tuple #[.agg #[.int .i64 0, .slice none 0 0], .int .i64 2]) (by simp [results, results16, go_sem, r0, r1, Vw, Vv]) rfl ?_
 exact ⟨(hB.setCell Zf _).setCell Zf _, .inl ⟨hbig, rfl⟩⟩)
 · (
 go_wp2_with fail
 go_tidy
 refine bodyPost_ret (v := .tuple #[.agg #[.int .i64 regs, .slice A2 (cK l l.length).length c2], .int .i64 0]) (by simp [results, results16, go_sem, r0, r1, Vw, Vv]) rfl ?_
 exact ⟨(hB.setCell Zf _).setCell Zf _, .inr ⟨Nat.le_of_not_lt hbig, _, rfl, (HN.o.far Hne.o _).far Hne.o _⟩⟩))))
end
end Go.Proofs.YtmghkonmfbpjcabGreatDoor
