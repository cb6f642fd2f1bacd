/- Parts. -/
import Derived.Test.YtmghkonmfbpjcabGreatDoorGE
set_option linter.unusedVariables false
set_option linter.unusedSimpArgs false
set_option maxRecDepth 100000
set_option maxHeartbeats 8000000
namespace Go.Proofs.YtmghkonmfbpjcabGreatDoor
open Go.RowKit
open Go.Proofs.Tryz
section
attribute [local irreducible] Row madeCells bO
structure sN (W0 : World) (ob : Nat) (r : Int) (v : Value) (out : List Nd) (W : World) : Prop where
 box : Blk W ob 24 #[.int .i64 r, v]
 row : cO W W0.heap.size 39 v out
 below : Below W0.heap.size W0 W
 low : W0.heap.size ≤ ob
section
variable {W0 : World} {ob : Nat} {r : Int} {v : Value} {out : List Nd} {W : World}
theorem sN.later {W' : World} (h : sN W0 ob r v out W) (hb : Below W.heap.size W W') : sN W0 ob r v out W' :=
 ⟨h.box.below hb h.box.lt, h.row.below' hb, h.below.trans (hb.mono h.below.size), h.low⟩
theorem sN.put6 {g n cap k : Nat} (h : sN W0 ob r (.slice (some ⟨g, 0, none⟩) n cap) out W) {x : Nd} (hk : out[k]? = some x) (y : Nd) :
 sN W0 ob r (.slice (some ⟨g, 0, none⟩) n cap) (out.set k y) ((((((W.setCell ⟨g, k * 6, none⟩ (.int .i64 y.op)).setCell ⟨g, k * 6 + 1, none⟩ (.int .i64 y.d)).setCell ⟨g, k * 6 + 2, none⟩ (.int .i64 y.a)).setCell ⟨g, k * 6 + 3, none⟩ (.int .i64 y.b)).setCell ⟨g, k * 6 + 4, none⟩ (.int .i64 y.t)).setCell ⟨g, k * 6 + 5, none⟩ (.int .i64 y.e)) := by (
 have hne : ob ≠ g := fun e => (h.row.ne_blk h.box Ze) Zv
 have hg : W0.heap.size ≤ g := (h.row.lt g rfl).1
 exact ⟨(((((h.box.far (p := ⟨g, k * 6, none⟩) hne _).far (p := ⟨g, k * 6 + 1, none⟩) hne _).far (p := ⟨g, k * 6 + 2, none⟩) hne _).far (p := ⟨g, k * 6 + 3, none⟩) hne _).far (p := ⟨g, k * 6 + 4, none⟩) hne _).far (p := ⟨g, k * 6 + 5, none⟩) hne _, h.row.put6 hk y,
  (((((h.below.setCell hg _).setCell hg _).setCell hg _).setCell hg _).setCell hg _).setCell hg _, h.low⟩)
theorem sN.append {V w9 : World} {v9 : Value} {x : Nd} (h0 : sN W0 ob r v out W) (hb : Below W.heap.size W V) (hr : cO w9 W0.heap.size 39 v9 (out ++ [x])) (hg : V.grownBy w9 v.ownBlock) :
 sN W0 ob r v9 (out ++ [x]) (w9.setCell ⟨ob, 1, none⟩ v9) := by (
 have h := h0.later hb
 have hL := Blk.grown h.box hg (h.row.ne_blk h.box Ze)
 exact ⟨hL.set_ 1 _, hr.far (hr.ne_blk hL Ze) _, (h.below.grown hg h.below.size (fun q hq => (h.row.lt q hq).1)).setCell h.low _, h.low⟩)
end
theorem yV (h : Int) (t : Tm) (pt : List Bool) (out : List Nd) : ∀ k, out.length ≤ (jD h t pt out k).length ∧ (jD h t pt out k).length ≤ out.length + k
 | 0 => by simp [jD]
 | k + 1 => by (
 have ih := yV h t pt out k
 unfold jD
 split
 · simp [uX]; omega
 · omega)
theorem bOU (regs : Int) (A : Option Addr) (l : List Nd) (cap : Nat) (t : Tm) (X Y : Option Addr) (pt tk : List Bool) (xc yc : Nat) (w : World) (hl : l.length ≤ maxLen) (hA : bH w A l) (hX : bG w X (bE pt)) (hY : bG w Y (bE tk)) (h0 : fxE regs l t = 0) (h1 : pt.length = l.length) (h2 : tk.length = l.length) :
 Calls prog 100 #[.agg #[.int .i64 regs, .slice A l.length cap], .agg #[.int .i64 t.op, .int .i64 t.a, .int .i64 t.b], .agg #[.slice X pt.length xc, .slice Y tk.length yc]] w (pQ 39 regs l t pt tk w) := by (
 have hfx := h0
 have hc0 : chk regs l = 0 := by (
 by_cases hc : chk regs l = 0
 · exact hc
 · (
 unfold fxE at h0
 rw [if_pos hc] at h0
 exact h0))
 have hR := bS hc0
 have hlo := hR.lo
 have hhi := hR.hi
 have hrlo := hR.rlo
 have hrhi := hR.rhi
 obtain ⟨i3, h3i, h3z, h3s, h3b⟩ := info_parts iG
 have HFa := bA (fun W (hW : Below w.heap.size w W) => kT regs A l cap t W hl (hA.below hW))
 have HCl := bA (fun W (hW : Below w.heap.size w W) => kU A l cap W (hA.below hW) hlo Zb)
 have HN := bA (fun W (hW : Below w.heap.size w W) => hA.below hW)
 refine Vt fun HX HY => ?_
 have H0 := bA h0
 have hwr : IntKind.i64.wrap (regs + 1) = regs + 1 := by rw [IntKind.wrap_i64]; omega
 have d1 : ((l.length : Int) != (l.length : Int)) = false := Zf
 have Hp := bA h1
 have Hk := bA h2
 rw [h1, h2]
 clear hA hX hY h0 hfx hc0 hR h1 h2
 go_enter func100, ntmps100
 go_wp2_with fail
 refine (HFa.o _ Yc).mono ?_
 rintro e w1 ⟨hb1, h⟩
 obtain ⟨-, F, v0, v1, v2, v3, v4, v5, rfl, hF, r0, r1, r2, r3, r4, r5⟩ := h.resolve_left (fun h => h.1 H0.o)
 clear h
 obtain ⟨A0, c0, e0, _, _⟩ := r0.shape
 subst e0
 obtain ⟨A1, c1, e1, _, _⟩ := r1.shape
 subst e1
 obtain ⟨A2, c2, e2, _, _⟩ := r2.shape
 subst e2
 obtain ⟨A3, c3, e3, _, _⟩ := r3.shape
 subst e3
 obtain ⟨A4, c4, e4, _, _⟩ := r4.shape
 subst e4
 obtain ⟨A5, c5, e5, _, _⟩ := r5.shape
 subst e5
 refine K1 fun hz1 hB1 hP1 hT1 => ?_
 have hL1 : Blk w1 (w.heap.size + 1 + 1) 133 #[.slice X l.length xc, .slice Y l.length yc] := Blk.below Ye hb1 Zd
 have hO1 : Blk w1 (w.heap.size + 1 + 1 + 1) 24 #[.int .i64 0, .slice none 0 0] := Blk.below Ye hb1 Zd
 clear hb1 r0 r1 r2 r3 r4 r5 hF
 go_upto_region 2 with fail
 obtain ⟨W1, hW1⟩ := Exq (w1.alloc (.cells #[.slice A0 (bE F.down).length c0, .slice A1 (bE F.up).length c1, .slice A2 (bE F.early).length c2, .slice A3 (bE F.delay).length c3, .slice A4 (bE F.late).length c4, .slice A5 (bE F.alone).length c5] 152))
 have hB2 : Below w.heap.size w W1 := by rw [hW1]; exact hB1.alloc Zb _
 have hO2 : Blk W1 (w.heap.size + 1 + 1 + 1) 24 #[.int .i64 0, .slice none 0 0] := by rw [hW1]; exact hO1.alloc _
 have hP2 : Blk W1 w.heap.size 24 #[.int .i64 regs, .slice A l.length cap] := by rw [hW1]; exact hP1.alloc _
 have hL2 : Blk W1 (w.heap.size + 1 + 1) 133 #[.slice X l.length xc, .slice Y l.length yc] := by rw [hW1]; exact hL1.alloc _
 have hT2 : Blk W1 (w.heap.size + 1) 56 (tmA t) := by rw [hW1]; exact hT1.alloc _
 rw [← hW1]
 generalize w1.heap.size = fb at *
 clear hW1 hB1 hP1 hL1 hO1 hT1 hz1
 have p0 := hP2.cell 0
 have p1 := hP2.cell 1
 have x0 := hL2.cell 0
 have x1 := hL2.cell 1
 simp only [Yl] at p0 p1 x0 x1
 have lp := hP2.lt
 have lx := hL2.lt
 have hz2 := hB2.size
 go_wp2_with fail
 refine (HCl.o _ hB2).mono ?_
 rintro e w3 ⟨v3, rfl, hN3, hb3⟩
 obtain ⟨A6, c6, e6, _, _⟩ := hN3.shape
 subst e6
 have hz3 := hb3.size
 have p1' := (hP2.below hb3 lp).cell 1
 simp only [Yl] at p1'
 have lp' := (hP2.below hb3 lp).lt
 go_upto_region 8 with fail
 obtain ⟨W2, hW2⟩ := Exq (w3.alloc (.cells #[.int .i64 (regs + 1), .slice A6 l.length c6] 24))
 have hS2 : sN W1 w3.heap.size (regs + 1) (.slice A6 l.length c6) (gD regs tk l 0) W2 := by rw [hW2, bBT]; exact ⟨Blk.new' rfl, hN3.alloc _, hb3.alloc Zb _, hz3⟩
 rw [← hW2]
 obtain ⟨ob, hob⟩ := Exq w3.heap.size
 rw [← hob] at hS2 ⊢
 have HS2 := bA hS2
 have HP := bA hP2
 have HT := bA hT2
 have HL := bA hL2
 have HO := bA hO2
 have HB := bA hB2
 have p1'' := (hP2.below hS2.below lp).cell 1
 simp only [Yl] at p1''
 have lp'' := (hP2.below hS2.below lp).lt
 have hobl := hS2.low
 clear hS2 hP2 hT2 hL2 hO2 hB2 hN3 hb3 hW2 hob p0 p1 p1' x0 x1 lp lp' lx hz3
 go_wp2_with fail
 go_loopg [53] (l.length) (fun gk i wr => ∃ (k : Nat) (v : Value), k ≤ l.length ∧ i = .int .i64 k ∧ gk = l.length - k ∧ sN W1 ob (regs + 1) v (gD regs tk l k) wr ∧ ∀ j, j < k → (yn tk j && !rkB t (nd l j)) = false)
 case atStart => exact ⟨0, _, Nat.zero_le _, rfl, rfl, HS2.o, fun j hj => by omega⟩
 case round => (
 clear HS2 p1'' lp''
 obtain ⟨k, v, hk, rfl, hgk, hS, hno⟩ := hrel
 have Hgk := bA hgk
 have Hno := bA hno
 clear hgk hno
 by_cases hlt : k < l.length
 · (
 have hB3 := HB.o.trans (hS.below.mono hz2)
 obtain ⟨nb, no, nn, rfl, hnb, hn, hnl⟩ := (HN.o _ hB3).get hlt
 obtain ⟨n0, n1, n2, n3, n4, n5⟩ := hnl
 obtain ⟨yb, yo, ey, ly, yc'⟩ := (HY.o _ hB3).bool (k := k) (by rw [Hk.o]; exact hlt)
 subst ey
 have hL3 := HL.o.below hS.below HL.o.lt
 have x1 := hL3.cell 1
 have lx := hL3.lt
 simp only [Yl] at x1
 refine Vf fun u0 u1 Hn => ?_
 have HS := bA hS
 have HB3 := bA hB3
 clear hn hS hB3 hL3
 go_upto_region 11 with fail
 obtain ⟨W3, hW3⟩ := Exq (wr.alloc (.cells #[.int .i64 nn.op, .int .i64 nn.d, .int .i64 nn.a, .int .i64 nn.b, .int .i64 nn.t, .int .i64 nn.e] 39))
 have hnB : Blk W3 wr.heap.size 39 #[.int .i64 nn.op, .int .i64 nn.d, .int .i64 nn.a, .int .i64 nn.b, .int .i64 nn.t, .int .i64 nn.e] := by rw [hW3]; exact Blk.new' rfl
 have hBW : Below wr.heap.size wr W3 := by rw [hW3]; exact (Bnq _ _)
 rw [← hW3]
 have hS3 := HS.o.later hBW
 have hBx := HS.o.below.trans (hBW.mono HS.o.below.size)
 have x1 := (HL.o.below hBx HL.o.lt).cell 1
 have lx := (HL.o.below hBx HL.o.lt).lt
 simp only [Yl] at x1
 have yc' := ((bB hBW).1 _ _ ly).trans yc'
 have hB4 := HB3.o.trans (hBW.mono HB3.o.size)
 have hyl : yb < W3.heap.size := V6 ly hBW.size
 obtain ⟨bn, hbn⟩ := Exq wr.heap.size
 rw [← hbn] at hnB ⊢
 have HnB := bA hnB
 have HS3 := bA hS3
 have HB4 := bA hB4
 clear n0 n1 n2 n3 n4 n5 hW3 hBW hbn hnB hS3 hB4
 cases hy : yn tk k
 case false => (
 rw [hy] at yc'
 have Hy := bA hy
 clear hy
 go_wp2_with fail
 go_roundg (l.length - (k + 1))
 case measure => exact Jg
 case rel => (
 refine ⟨k + 1, _, Zb, by go_num, rfl, by rw [bBV Hy.o]; exact HS3.o, fun j hj => ?_⟩
 by_cases e : j = k
 · rw [e, Hy.o]; rfl
 · exact Hno.o j Zb))
 case true => (
 rw [hy] at yc'
 have Hy := bA hy
 have hT3 := HT.o.below hBx HT.o.lt
 have t0 := hT3.cell 0
 have t1 := hT3.cell 1
 have t2 := hT3.cell 2
 have lT := hT3.lt
 have m0 := HnB.o.cell 0
 have m1 := HnB.o.cell 1
 have m2 := HnB.o.cell 2
 have m3 := HnB.o.cell 3
 have m4 := HnB.o.cell 4
 have m5 := HnB.o.cell 5
 have lm := HnB.o.lt
 simp only [tmA, Yl] at t0 t1 t2 m0 m1 m2 m3 m4 m5
 have Hrk := bA (iF nn t W3)
 unfold tmA at Hrk
 clear hy hT3
 go_wp2_with fail
 refine (Hrk.o).mono ?_
 rintro e w5 ⟨rfl, hb5⟩
 have hS5 := HS3.o.later hb5
 have hB5 := HB4.o.trans (hb5.mono HB4.o.size)
 clear Hrk t0 t1 t2 m0 m1 m2 m3 m4 m5
 cases hq : rkB t nn
 case false => (
 have hO := (HO.o.below hBx HO.o.lt).below hb5 (HO.o.below hBx HO.o.lt).lt
 refine Kp fun f0 f1 o0 o1 lO => ?_
 have hE : maE regs l t pt tk = 1 := by (
 unfold maE
 rw [if_neg (by rw [H0.o]; simp), if_neg (by rw [Hp.o, Hk.o]; simp), if_pos]
 unfold mK
 rw [List.any_eq_true]
 exact ⟨k, List.mem_range.2 hlt, by rw [Hy.o, dJ Hn.o, hq]; rfl⟩)
 have HE := bA hE
 have HBf := bA hB5
 clear hE hq hS5 hB5 hO
 unfold pQ
 go_wp2_with fail
 go_tidy
 refine bodyPost_ret (v := .tuple #[.agg #[.int .i64 0, .slice none 0 0], .int .i64 1]) (by simp [results, results100, go_sem, o0, o1, f0, f1, Vw, Vv]; try rfl) rfl ?_
 exact ⟨(HBf.o.setCell Zd _).setCell Zd _, .inl ⟨by rw [HE.o]; decide, by rw [HE.o]⟩⟩)
 case true => (
 have Hq := bA hq
 have hxk : (gD regs tk l k)[k]? = some nn := by rw [qY _ _ _ _ hlt, if_neg Zb, dJ Hn.o]
 obtain ⟨g, gc, x, ev, hgB, hgl, hx, hlie, hfr⟩ := hS5.row.get (k := k) (by rw [lB]; exact hlt)
 subst ev
 rw [hxk] at hx
 injection hx with hx
 subst hx
 obtain ⟨z0, z1, z2, z3, z4, z5⟩ := hlie
 have f0 := hfr (k * 6 + 0) Xb
 have f1 := hfr (k * 6 + 1) Xb
 have f2 := hfr (k * 6 + 2) Xb
 have f3 := hfr (k * 6 + 3) Xb
 have f4 := hfr (k * 6 + 4) Xb
 have f5 := hfr (k * 6 + 5) Xb
 have hm5 := HnB.o.below hb5 HnB.o.lt
 have m1 := hm5.cell 1
 have m4 := hm5.cell 4
 have lm5 := hm5.lt
 have s1 := hS5.box.cell 1
 have ls := hS5.box.lt
 simp only [Yl] at m1 m4 s1
 have e7 := lB regs tk l k
 rw [e7] at s1
 simp only [Nat.add_zero] at f0
 rw [e7] at hS5
 have HS5 := bA hS5
 have Hxk := bA hxk
 have w0 : k < l.length := hlt
 clear hS5 hxk hfr hm5 hq hb5 hB5
 go_wp2_with fail
 go_roundg (l.length - (k + 1))
 case measure => exact Jg
 case rel => (
 have hp := HS5.o.put6 Hxk.o ⟨2, nn.d, regs, 0, nn.t, 0⟩
 refine ⟨k + 1, .slice (some ⟨g, 0, none⟩) l.length gc, Zb, by go_num, rfl, ?_, fun j hj => ?_⟩
 · rw [bBU hlt, jA, if_pos Hy.o, dJ Hn.o]; exact hp
 · (
 by_cases e : j = k
 · rw [e, dJ Hn.o, Hq.o]; simp
 · exact Hno.o j Zb)))))
 · (
 have hkk : k = l.length := Zb
 subst hkk
 rw [bFN] at hS
 have hbad : mK t tk l = false := by (
 unfold mK
 rw [List.any_eq_false]
 intro j hj
 rw [Hno.o j (List.mem_range.1 hj)]; simp)
 have Hbad := bA hbad
 have hS : sN W1 ob (regs + 1) v (jD regs t pt (lC regs tk l) 0) wr := hS
 obtain ⟨OL, hOL⟩ := Exq (lC regs tk l)
 have hOl : OL.length = l.length := by rw [hOL]; simp [lC]
 rw [← hOL] at hS
 have HOL := bA hOL
 have HS2 := bA hS
 have p1 := (HP.o.below hS.below HP.o.lt).cell 1
 have lp := (HP.o.below hS.below HP.o.lt).lt
 simp only [Yl] at p1
 clear hS hbad hOL Hno Hgk hk hlt
 go_wp2_with fail
 obtain ⟨wo, rfl⟩ := Exq wr
 go_loopg [83] (l.length) (fun gk i wr => ∃ (k : Nat) (v : Value), k ≤ l.length ∧ i = .int .i64 k ∧ gk = l.length - k ∧ sN W1 ob (regs + 1) v (jD regs t pt OL k) wr)
 case atStart => exact ⟨0, _, Nat.zero_le _, rfl, rfl, HS2.o⟩
 case round => (
 clear HS2 p1 lp
 obtain ⟨k, v, hk, rfl, hgk, hS⟩ := hrel
 have Hgk := bA hgk
 clear hgk
 by_cases hlt : k < l.length
 · (
 have hB3 := HB.o.trans (hS.below.mono hz2)
 obtain ⟨yb, yo, ey, ly, yc'⟩ := (HX.o _ hB3).bool (k := k) (by rw [Hp.o]; exact hlt)
 subst ey
 have hL3 := HL.o.below hS.below HL.o.lt
 have x0 := hL3.cell 0
 have lx := hL3.lt
 simp only [Yl] at x0
 refine Vk fun u0 u1 => ?_
 have HS := bA hS
 have HB3 := bA hB3
 clear hS hB3 hL3
 cases hy : yn pt k
 case false => (
 rw [hy] at yc'
 have Hy := bA hy
 clear hy
 go_wp2_with fail
 go_roundg (l.length - (k + 1))
 case measure => exact Jg
 case rel => exact ⟨k + 1, _, Zb, by go_num, rfl, by rw [jD, if_neg (by rw [Hy.o]; simp)]; exact HS.o⟩)
 case true => (
 rw [hy] at yc'
 have Hy := bA hy
 clear hy
 obtain ⟨O, hO⟩ := Exq (jD regs t pt OL k)
 have hlen := yV regs t pt OL k
 rw [← hO] at hlen
 have hS := HS.o
 rw [← hO] at hS
 have HOk := bA hO
 clear hO HS
 obtain ⟨g, gc, n0, ev, hgB, hgl, hn0, hl0, hfr⟩ := hS.row.get (k := k) Zb
 subst ev
 obtain ⟨c0, c1, c2, c3, c4, c5⟩ := hl0
 have q0 := hS.box.cell 0
 have q1 := hS.box.cell 1
 have fq0 := hS.box.frozen 0
 have fq1 := hS.box.frozen 1
 have lq := hS.box.lt
 simp only [Yl] at q0 q1
 have hobg : ¬ (g = ob) := fun e => (hS.row.ne_blk hS.box Ze) Zv
 have n00 : k < O.length := Zb
 have u2 : (k : Int) < (O.length : Int) := Zb
 have hOlen : O.length ≤ 512 := Zb
 have hzS := hS.below.size
 have HS := bA hS
 clear hS hfr
 go_upto_region 20 with fail
 go_cut [14] (fun s14 wx => s14 = .int .i64 k ∧ ∃ g' c', sN W1 ob (regs + 1) (.slice (some ⟨g', 0, none⟩) (O.length + 1) c') (O ++ [n0]) wx)
 case first => (
 go_region_law ((refine iT (v := .slice (some ⟨g, 0, none⟩) O.length gc) (l := O) (base := W1.heap.size) Zj _ _ _ Zj i3 _ 48 underlying22 h3i h3z h3s h3b rfl Zj (by repeat (first | exact HS.o.row | (with_reducible refine bO.drew ?_) | (with_reducible refine bO.alloc ?_ _))) (some ⟨wr.heap.size, 0, none⟩) 1 1 [n0] Zj Zj (cH Zf) Zr Zd Zd ?_; intro v4 w4 hr4 hg4 hat4; obtain ⟨g4, c4', x4, hv4, hgB4, hgl4, _, _, _⟩ := hr4.get (k := 0) Zf; subst hv4; have hq4 : Blk w4 ob 24 #[.int .i64 (regs + 1), .slice (some ⟨g, 0, none⟩) O.length gc] := Blk.grown (by repeat (first | exact HS.o.box | (with_reducible refine Blk.drew ?_) | (with_reducible refine Blk.alloc ?_ _))) hg4 Zt; have r1 := hq4.cell 1; have r2 := hq4.frozen 1; simp only [Yl] at r1; have e4 : (O ++ [n0]).length = O.length + 1 := Zf; rw [e4] at hr4; have hP4 := HS.o.append (V := _) (by repeat (first | exact Below.refl _ _ | (with_reducible refine Below.drew ?_) | (with_reducible refine Below.alloc ?_ Zd _))) hr4 hg4; have HP4 := bA hP4; clear hP4 hq4 hr4 hat4))
 all_goals (go_wp2_with fail)
 all_goals go_meet
 all_goals go_tidy
 all_goals exact ⟨rfl, _, _, HP4.o⟩)
 case rest => (
 obtain ⟨rfl, g', gc', hS4⟩ := hcut
 obtain ⟨W4, rfl⟩ := Exq wc
 have Hn0 := bA hn0
 clear HS c0 c1 c2 c3 c4 c5 q0 q1 fq0 fq1 lq hobg hgB hgl hn0 yc' ly x0 lx
 obtain ⟨g5, c5', x5, ev, hgB5, hgl5, hx5, hl5, hfr5⟩ := hS4.row.get (k := k) Zh
 injection ev with ev e2 e3
 injection ev with ev
 injection ev with ev e4
 subst ev
 clear e2 e3 e4
 obtain ⟨c0, c1, c2, c3, c4, c5⟩ := hl5
 have f0 := hfr5 (k * 6 + 0) Zh
 have f1 := hfr5 (k * 6 + 1) Zh
 have f2 := hfr5 (k * 6 + 2) Zh
 have f3 := hfr5 (k * 6 + 3) Zh
 have f4 := hfr5 (k * 6 + 4) Zh
 have f5 := hfr5 (k * 6 + 5) Zh
 simp only [Nat.add_zero] at f0
 have q1 := hS4.box.cell 1
 have lq := hS4.box.lt
 have hT3 := HT.o.below hS4.below HT.o.lt
 have t0 := hT3.cell 0
 have t1 := hT3.cell 1
 have t2 := hT3.cell 2
 have lT := hT3.lt
 simp only [tmA, Yl] at q1 t0 t1 t2
 have u3 : (k : Int) < ((O.length + 1 : Nat) : Int) := Zb
 have w0 : k < O.length + 1 := Zb
 have hws : IntKind.i64.wrap (((O.length + 1 : Nat) : Int) - 1) = (O.length : Int) := by rw [IntKind.wrap_i64]; omega
 have HS4 := bA hS4
 have Hx5 := bA hx5
 clear hS4 hx5 hfr5 hT3
 go_wp2_with fail
 go_roundg (l.length - (k + 1))
 case measure => exact Jg
 case rel => (
 have hp := HS4.o.put6 Hx5.o (vW regs t O.length)
 refine ⟨k + 1, .slice (some ⟨g', 0, none⟩) (O.length + 1) gc', Zb, by go_num, rfl, ?_⟩
 rw [jD, if_pos Hy.o, ← HOk.o, uX, dJ Hn0.o]
 exact hp))))
 · (
 have hkk : k = l.length := Zb
 subst hkk
 have hA : jD regs t pt OL l.length = dF regs t pt tk l := by rw [HOL.o]; rfl
 rw [hA] at hS
 obtain ⟨A7, c7, e7, _, _⟩ := hS.row.shape
 subst e7
 have hO := HO.o.below hS.below HO.o.lt
 have s0 := hS.box.cell 0
 have s1 := hS.box.cell 1
 have ls := hS.box.lt
 have o0 := hO.cell 0
 have o1 := hO.cell 1
 have f0 := hO.frozen 0
 have f1 := hO.frozen 1
 simp only [Yl] at s0 s1 o0 o1
 have lO := hO.lt
 have hBf := HB.o.trans (hS.below.mono hz2)
 have hnr := hS.row.ne_blk hO Ze
 have Q1 := bA ((hS.row.far (p := ⟨w.heap.size + 1 + 1 + 1, 0, none⟩) hnr (.int .i64 (regs + 1))).far (p := ⟨w.heap.size + 1 + 1 + 1, 1, none⟩) hnr (.slice A7 (dF regs t pt tk l).length c7))
 have HBf := bA hBf
 have hm : maE regs l t pt tk = if 256 < (dF regs t pt tk l).length ∨ 64 < regs + 1 then 2 else 0 := by unfold maE; rw [if_neg (by rw [H0.o]; simp), if_neg (by rw [Hp.o, Hk.o]; simp), if_neg (by rw [Hbad.o]; simp)]
 have Hm := bA hm
 have hz9 := hS.below.size
 clear hS hO hA hBf hnr hm Hgk
 unfold pQ
 generalize (dF regs t pt tk l).length = N at *
 by_cases h256 : 256 < N
 · (
 have y0 : (256 : Int) < (N : Int) := Zb
 have hE : maE regs l t pt tk = 2 := by rw [Hm.o, if_pos (.inl h256)]
 have HE := bA hE
 clear hE
 go_wp2_with fail
 go_tidy
 refine bodyPost_ret (v := .tuple #[.agg #[.int .i64 0, .slice none 0 0], .int .i64 2]) (by simp [results, results100, go_sem, s0, s1, o0, o1, f0, f1, Vw, Vv]; try rfl) rfl ?_
 exact ⟨(HBf.o.setCell Zd _).setCell Zd _, .inl ⟨by rw [HE.o]; decide, by rw [HE.o]⟩⟩)
 · (
 have y0 : ¬ (256 : Int) < (N : Int) := Zb
 by_cases h64 : 64 < regs + 1
 · (
 have hE : maE regs l t pt tk = 2 := by rw [Hm.o, if_pos (.inr h64)]
 have HE := bA hE
 clear hE
 go_wp2_with fail
 go_tidy
 refine bodyPost_ret (v := .tuple #[.agg #[.int .i64 0, .slice none 0 0], .int .i64 2]) (by simp [results, results100, go_sem, s0, s1, o0, o1, f0, f1, Vw, Vv]; try rfl) rfl ?_
 exact ⟨(HBf.o.setCell Zd _).setCell Zd _, .inl ⟨by rw [HE.o]; decide, by rw [HE.o]⟩⟩)
 · (
 have hE : maE regs l t pt tk = 0 := by rw [Hm.o, if_neg (fun h => h.elim h256 h64)]
 have HE := bA hE
 clear hE
 go_wp2_with fail
 go_tidy
 refine bodyPost_ret (v := .tuple #[.agg #[.int .i64 (regs + 1), .slice A7 N c7], .int .i64 0]) (by simp [results, results100, go_sem, s0, s1, o0, o1, f0, f1, Vw, Vv]; try rfl) rfl ?_
 exact ⟨(HBf.o.setCell Zd _).setCell Zd _, .inr ⟨HE.o, _, rfl, Q1.out.mono Zb⟩⟩)))))))
theorem bLB (regs : Int) (A : Option Addr) (l : List Nd) (cap : Nat) (t : Tm) (X Y : Option Addr) (pt tk : List Bool) (xc yc : Nat) (w : World) (hl : l.length ≤ maxLen) (hA : bH w A l) (hX : bG w X (bE pt)) (hY : bG w Y (bE tk)) :
 Calls prog 100 #[.agg #[.int .i64 regs, .slice A l.length cap], .agg #[.int .i64 t.op, .int .i64 t.a, .int .i64 t.b], .agg #[.slice X pt.length xc, .slice Y tk.length yc]] w (pQ 39 regs l t pt tk w) := by (
 by_cases h0 : fxE regs l t = 0
 · (
 by_cases h1 : pt.length = l.length
 · (
 by_cases h2 : tk.length = l.length
 · exact bOU regs A l cap t X Y pt tk xc yc w hl hA hX hY h0 h1 h2
 · exact zW regs A l cap t X Y pt tk xc yc w hl hA h0 (.inr h2))
 · exact zW regs A l cap t X Y pt tk xc yc w hl hA h0 (.inl h1))
 · exact bLA regs A l cap t X Y pt tk xc yc w hl hA h0)
end
end Go.Proofs.YtmghkonmfbpjcabGreatDoor
