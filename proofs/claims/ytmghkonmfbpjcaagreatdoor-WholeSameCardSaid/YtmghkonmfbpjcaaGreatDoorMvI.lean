/- MvI. -/
import Derived.Test.YtmghkonmfbpjcaaGreatDoorGE
import Derived.Deep.DeepCutAuto
import Derived.Test.YtmghkonmfbpjcaaGreatDoorGA
set_option linter.unusedVariables false
set_option linter.unusedSimpArgs false
namespace Go.Proofs.YtmghkonmfbpjcaaGreatDoor
section
open Go.RowKit
set_option maxHeartbeats 8000000
attribute [local irreducible] Row madeCells NRow
structure ApSt (W0 : World) (ob : Nat) (r : Int) (v : Value) (out : List Nd) (W : World) : Prop where
 box : Blk W ob 24 #[.int .i64 r, v]
 row : NRow W W0.heap.size 44 v out
 below : Below W0.heap.size W0 W
 low : W0.heap.size ≤ ob
section
variable {W0 : World} {ob : Nat} {r : Int} {v : Value} {out : List Nd} {W : World}
theorem ApSt.later {W' : World} (h : ApSt W0 ob r v out W) (hb : Below W.heap.size W W') : ApSt W0 ob r v out W' :=
 ⟨h.box.below hb h.box.lt, h.row.below' hb, h.below.trans (hb.mono h.below.size), h.low⟩
theorem ApSt.put6 {g n cap k : Nat} (h : ApSt W0 ob r (.slice (some ⟨g, 0, none⟩) n cap) out W) {x : Nd} (hk : out[k]? = some x) (y : Nd) :
 ApSt W0 ob r (.slice (some ⟨g, 0, none⟩) n cap) (out.set k y) ((((((W.setCell ⟨g, k * 6, none⟩ (.int .i64 y.op)).setCell ⟨g, k * 6 + 1, none⟩ (.int .i64 y.d)).setCell ⟨g, k * 6 + 2, none⟩ (.int .i64 y.a)).setCell ⟨g, k * 6 + 3, none⟩ (.int .i64 y.b)).setCell ⟨g, k * 6 + 4, none⟩ (.int .i64 y.t)).setCell ⟨g, k * 6 + 5, none⟩ (.int .i64 y.e)) := by (
 have hne : ob ≠ g := fun e => (h.row.ne_blk h.box (by decide)) (by rw [e]; rfl)
 have hg : W0.heap.size ≤ g := (h.row.lt g rfl).1
 exact ⟨(((((h.box.far (p := ⟨g, k * 6, none⟩) hne _).far (p := ⟨g, k * 6 + 1, none⟩) hne _).far (p := ⟨g, k * 6 + 2, none⟩) hne _).far (p := ⟨g, k * 6 + 3, none⟩) hne _).far (p := ⟨g, k * 6 + 4, none⟩) hne _).far (p := ⟨g, k * 6 + 5, none⟩) hne _, h.row.put6 hk y,
  (((((h.below.setCell hg _).setCell hg _).setCell hg _).setCell hg _).setCell hg _).setCell hg _, h.low⟩)
theorem ApSt.append {V w9 : World} {v9 : Value} {x : Nd} (h0 : ApSt W0 ob r v out W) (hb : Below W.heap.size W V) (hr : NRow w9 W0.heap.size 44 v9 (out ++ [x])) (hg : V.grownBy w9 v.ownBlock) :
 ApSt W0 ob r v9 (out ++ [x]) (w9.setCell ⟨ob, 1, none⟩ v9) := by (
 have h := h0.later hb
 have hL := Blk.grown h.box hg (h.row.ne_blk h.box (by decide))
 exact ⟨hL.set_ 1 _, hr.far (hr.ne_blk hL (by decide)) _, (h.below.grown hg h.below.size (fun q hq => (h.row.lt q hq).1)).setCell h.low _, h.low⟩)
end
theorem putTo_len (h : Int) (t : Tm) (pt : List Bool) (out : List Nd) : ∀ k, out.length ≤ (putTo h t pt out k).length ∧ (putTo h t pt out k).length ≤ out.length + k
 | 0 => by simp [putTo]
 | k + 1 => by (
 have ih := putTo_len h t pt out k
 unfold putTo
 split
 · simp [putStep]; omega
 · omega)
set_option maxRecDepth 100000 in
theorem Apply_ok (regs : Int) (A : Option Addr) (l : List Nd) (cap : Nat) (t : Tm) (X Y : Option Addr) (pt tk : List Bool) (xc yc : Nat) (w : World) (hl : l.length ≤ maxLen) (hA : NodesAt w A l) (hX : ValsAt w X (bools pt)) (hY : ValsAt w Y (bools tk)) (h0 : fxE regs l t = 0) (h1 : pt.length = l.length) (h2 : tk.length = l.length) :
 Calls Tryz.prog 38 #[.agg #[.int .i64 regs, .slice A l.length cap], .agg #[.int .i64 t.op, .int .i64 t.a, .int .i64 t.b], .agg #[.slice X pt.length xc, .slice Y tk.length yc]] w (MaPost 44 regs l t pt tk w) := by (
 have hfx := h0
 have hc0 : chk regs l = 0 := by (
 by_cases hc : chk regs l = 0
 · exact hc
 · (
 unfold fxE at h0
 rw [if_pos hc] at h0
 exact h0))
 have hR := right_of_chk hc0
 have hlo := hR.lo
 have hhi := hR.hi
 have hrlo := hR.rlo
 have hrhi := hR.rhi
 obtain ⟨i3, h3i, h3z, h3s, h3b⟩ := info_parts infoNode
 have HFa := hide (fun W (hW : Below w.heap.size w W) => Facts_any regs A l cap t W hl (hA.below hW))
 have HCl := hide (fun W (hW : Below w.heap.size w W) => Clone_any A l cap W (hA.below hW) hlo (by omega))
 have HN := hide (fun W (hW : Below w.heap.size w W) => hA.below hW)
 have HX := hide (fun W (hW : Below w.heap.size w W) => hX.below hW)
 have HY := hide (fun W (hW : Below w.heap.size w W) => hY.below hW)
 have H0 := hide h0
 have hwr : IntKind.i64.wrap (regs + 1) = regs + 1 := by rw [IntKind.wrap_i64]; omega
 have d1 : ((l.length : Int) != (l.length : Int)) = false := by simp
 have Hp := hide h1
 have Hk := hide h2
 rw [h1, h2]
 clear hA hX hY h0 hfx hc0 hR h1 h2
 go_enter Tryz.func38, Tryz.ntmps38
 go_wp2_with fail
 refine (HFa.out _ (by (with_reducible repeat first | apply Qa | assumption | apply Qb | apply Qc | apply Qd | apply Qe | refine Qf ?_ (by assumption) ?_); all_goals (try simp only [Sz]); first | done | omega | (try simp only [Sz] at *); omega)).mono ?_
 rintro e w1 ⟨hb1, h⟩
 obtain ⟨-, F, v0, v1, v2, v3, v4, v5, rfl, hF, r0, r1, r2, r3, r4, r5⟩ := h.resolve_left (fun h => h.1 H0.out)
 clear h
 obtain ⟨A0, c0, e0, _, _⟩ := r0.shape
 subst e0
 obtain ⟨A1, c1, e1, _, _⟩ := r1.shape
 subst e1
 obtain ⟨A2, c2, e2, _, _⟩ := r2.shape
 subst e2
 obtain ⟨A3, c3, e3, _, _⟩ := r3.shape
 subst e3
 obtain ⟨A4, c4, e4, _, _⟩ := r4.shape
 subst e4
 obtain ⟨A5, c5, e5, _, _⟩ := r5.shape
 subst e5
 have hz1 := hb1.size
 simp only [World.size_alloc] at hz1
 have hB1 : Below w.heap.size w w1 := (by (with_reducible repeat first | apply Qa | assumption | apply Qb | apply Qc | apply Qd | apply Qe | refine Qf ?_ (by assumption) ?_); all_goals (try simp only [Sz]); first | done | omega | (try simp only [Sz] at *); omega)
 have hP1 : Blk w1 w.heap.size 24 #[.int .i64 regs, .slice A l.length cap] := Blk.below (by repeat (first | ((with_reducible refine Blk.new' ?_); exact (by (try simp only [Sz]); first | done | omega | (try simp only [Sz] at *); omega)) | (with_reducible refine Blk.alloc ?_ _))) hb1 (by simp <;> omega)
 have hT1 : Blk w1 (w.heap.size + 1) 41 (tmA t) := Blk.below (by unfold tmA; repeat (first | ((with_reducible refine Blk.new' ?_); exact (by (try simp only [Sz]); first | done | omega | (try simp only [Sz] at *); omega)) | (with_reducible refine Blk.alloc ?_ _))) hb1 (by simp <;> omega)
 have hL1 : Blk w1 (w.heap.size + 1 + 1) 76 #[.slice X l.length xc, .slice Y l.length yc] := Blk.below (by repeat (first | ((with_reducible refine Blk.new' ?_); exact (by (try simp only [Sz]); first | done | omega | (try simp only [Sz] at *); omega)) | (with_reducible refine Blk.alloc ?_ _))) hb1 (by simp <;> omega)
 have hO1 : Blk w1 (w.heap.size + 1 + 1 + 1) 24 #[.int .i64 0, .slice none 0 0] := Blk.below (by repeat (first | ((with_reducible refine Blk.new' ?_); exact (by (try simp only [Sz]); first | done | omega | (try simp only [Sz] at *); omega)) | (with_reducible refine Blk.alloc ?_ _))) hb1 (by simp <;> omega)
 clear hb1 r0 r1 r2 r3 r4 r5 hF
 go_upto_region 2 with fail
 obtain ⟨W1, hW1⟩ : ∃ W1 : World, W1 = w1.alloc (.cells #[.slice A0 (bools F.down).length c0, .slice A1 (bools F.up).length c1, .slice A2 (bools F.early).length c2, .slice A3 (bools F.delay).length c3, .slice A4 (bools F.late).length c4, .slice A5 (bools F.alone).length c5] 72) := ⟨_, rfl⟩
 have hB2 : Below w.heap.size w W1 := by rw [hW1]; exact hB1.alloc (by omega) _
 have hO2 : Blk W1 (w.heap.size + 1 + 1 + 1) 24 #[.int .i64 0, .slice none 0 0] := by rw [hW1]; exact hO1.alloc _
 have hP2 : Blk W1 w.heap.size 24 #[.int .i64 regs, .slice A l.length cap] := by rw [hW1]; exact hP1.alloc _
 have hL2 : Blk W1 (w.heap.size + 1 + 1) 76 #[.slice X l.length xc, .slice Y l.length yc] := by rw [hW1]; exact hL1.alloc _
 have hT2 : Blk W1 (w.heap.size + 1) 41 (tmA t) := by rw [hW1]; exact hT1.alloc _
 rw [← hW1]
 generalize w1.heap.size = fb at *
 clear hW1 hB1 hP1 hL1 hO1 hT1 hz1
 have p0 := hP2.cell 0
 have p1 := hP2.cell 1
 have x0 := hL2.cell 0
 have x1 := hL2.cell 1
 simp only [Yl] at p0 p1 x0 x1
 have lp := hP2.lt
 have lx := hL2.lt
 have hz2 := hB2.size
 go_wp2_with fail
 refine (HCl.out _ hB2).mono ?_
 rintro e w3 ⟨v3, rfl, hN3, hb3⟩
 obtain ⟨A6, c6, e6, _, _⟩ := hN3.shape
 subst e6
 have hz3 := hb3.size
 have p1' := (hP2.below hb3 lp).cell 1
 simp only [Yl] at p1'
 have lp' := (hP2.below hb3 lp).lt
 go_upto_region 8 with fail
 obtain ⟨W2, hW2⟩ : ∃ W2 : World, W2 = w3.alloc (.cells #[.int .i64 (regs + 1), .slice A6 l.length c6] 24) := ⟨_, rfl⟩
 have hS2 : ApSt W1 w3.heap.size (regs + 1) (.slice A6 l.length c6) (takeTo regs tk l 0) W2 := by rw [hW2, takeTo_zero]; exact ⟨Blk.new' rfl, hN3.alloc _, hb3.alloc (by omega) _, hz3⟩
 rw [← hW2]
 obtain ⟨ob, hob⟩ : ∃ b, b = w3.heap.size := ⟨_, rfl⟩
 rw [← hob] at hS2 ⊢
 have HS2 := hide hS2
 have HP := hide hP2
 have HT := hide hT2
 have HL := hide hL2
 have HO := hide hO2
 have HB := hide hB2
 have p1'' := (hP2.below hS2.below lp).cell 1
 simp only [Yl] at p1''
 have lp'' := (hP2.below hS2.below lp).lt
 have hobl := hS2.low
 clear hS2 hP2 hT2 hL2 hO2 hB2 hN3 hb3 hW2 hob p0 p1 p1' x0 x1 lp lp' lx hz3
 go_wp2_with fail
 go_loopg [53] (l.length) (fun gk i wr => ∃ (k : Nat) (v : Value), k ≤ l.length ∧ i = .int .i64 k ∧ gk = l.length - k ∧ ApSt W1 ob (regs + 1) v (takeTo regs tk l k) wr ∧ ∀ j, j < k → (yn tk j && !rkB t (nd l j)) = false)
 case atStart => exact ⟨0, _, Nat.zero_le _, rfl, rfl, HS2.out, fun j hj => by omega⟩
 case round => (
 clear HS2 p1'' lp''
 obtain ⟨k, v, hk, rfl, hgk, hS, hno⟩ := hrel
 have Hgk := hide hgk
 have Hno := hide hno
 clear hgk hno
 by_cases hlt : k < l.length
 · (
 have hB3 := HB.out.trans (hS.below.mono hz2)
 obtain ⟨nb, no, nn, rfl, hnb, hn, hnl⟩ := (HN.out _ hB3).get hlt
 obtain ⟨n0, n1, n2, n3, n4, n5⟩ := hnl
 obtain ⟨yb, yo, ey, ly, yc'⟩ := (HY.out _ hB3).bool (k := k) (by rw [Hk.out]; exact hlt)
 subst ey
 have hL3 := HL.out.below hS.below HL.out.lt
 have x1 := hL3.cell 1
 have lx := hL3.lt
 simp only [Yl] at x1
 have u0 : (0 : Int) ≤ (k : Int) := by omega
 have u1 : (k : Int) < (l.length : Int) := by omega
 have Hn := hide hn
 have HS := hide hS
 have HB3 := hide hB3
 clear hn hS hB3 hL3
 go_upto_region 11 with fail
 obtain ⟨W3, hW3⟩ : ∃ W3 : World, W3 = wr.alloc (.cells #[.int .i64 nn.op, .int .i64 nn.d, .int .i64 nn.a, .int .i64 nn.b, .int .i64 nn.t, .int .i64 nn.e] 44) := ⟨_, rfl⟩
 have hnB : Blk W3 wr.heap.size 44 #[.int .i64 nn.op, .int .i64 nn.d, .int .i64 nn.a, .int .i64 nn.b, .int .i64 nn.t, .int .i64 nn.e] := by rw [hW3]; exact Blk.new' rfl
 have hBW : Below wr.heap.size wr W3 := by rw [hW3]; exact (Below.refl _ _).alloc (Nat.le_refl _) _
 rw [← hW3]
 have hS3 := HS.out.later hBW
 have hBx := HS.out.below.trans (hBW.mono HS.out.below.size)
 have x1 := (HL.out.below hBx HL.out.lt).cell 1
 have lx := (HL.out.below hBx HL.out.lt).lt
 simp only [Yl] at x1
 have yc' := ((bcell hBW).1 _ _ ly).trans yc'
 have hB4 := HB3.out.trans (hBW.mono HB3.out.size)
 have hyl : yb < W3.heap.size := Nat.lt_of_lt_of_le ly hBW.size
 obtain ⟨bn, hbn⟩ : ∃ b, b = wr.heap.size := ⟨_, rfl⟩
 rw [← hbn] at hnB ⊢
 have HnB := hide hnB
 have HS3 := hide hS3
 have HB4 := hide hB4
 clear n0 n1 n2 n3 n4 n5 hW3 hBW hbn hnB hS3 hB4
 cases hy : yn tk k
 case false => (
 rw [hy] at yc'
 have Hy := hide hy
 clear hy
 go_wp2_with fail
 go_roundg (l.length - (k + 1))
 case measure => have := Hgk.out; omega
 case rel => (
 refine ⟨k + 1, _, by omega, by go_num, rfl, by rw [takeTo_same Hy.out]; exact HS3.out, fun j hj => ?_⟩
 by_cases e : j = k
 · rw [e, Hy.out]; rfl
 · exact Hno.out j (by omega)))
 case true => (
 rw [hy] at yc'
 have Hy := hide hy
 have hT3 := HT.out.below hBx HT.out.lt
 have t0 := hT3.cell 0
 have t1 := hT3.cell 1
 have t2 := hT3.cell 2
 have lT := hT3.lt
 have m0 := HnB.out.cell 0
 have m1 := HnB.out.cell 1
 have m2 := HnB.out.cell 2
 have m3 := HnB.out.cell 3
 have m4 := HnB.out.cell 4
 have m5 := HnB.out.cell 5
 have lm := HnB.out.lt
 simp only [tmA, Yl] at t0 t1 t2 m0 m1 m2 m3 m4 m5
 have Hrk := hide (mvReckons_any nn t W3)
 unfold tmA at Hrk
 clear hy hT3
 go_wp2_with fail
 refine (Hrk.out).mono ?_
 rintro e w5 ⟨rfl, hb5⟩
 have hS5 := HS3.out.later hb5
 have hB5 := HB4.out.trans (hb5.mono HB4.out.size)
 clear Hrk t0 t1 t2 m0 m1 m2 m3 m4 m5
 cases hq : rkB t nn
 case false => (
 have hO := (HO.out.below hBx HO.out.lt).below hb5 (HO.out.below hBx HO.out.lt).lt
 have o0 := hO.cell 0
 have o1 := hO.cell 1
 have f0 := hO.frozen 0
 have f1 := hO.frozen 1
 simp only [Yl] at o0 o1
 have lO := hO.lt
 have hE : maE regs l t pt tk = 1 := by (
 unfold maE
 rw [if_neg (by rw [H0.out]; simp), if_neg (by rw [Hp.out, Hk.out]; simp), if_pos]
 unfold badTake
 rw [List.any_eq_true]
 exact ⟨k, List.mem_range.2 hlt, by rw [Hy.out, nd_get Hn.out, hq]; rfl⟩)
 have HE := hide hE
 have HBf := hide hB5
 clear hE hq hS5 hB5 hO
 unfold MaPost
 go_wp2_with fail
 go_tidy
 refine bodyPost_ret (v := .tuple #[.agg #[.int .i64 0, .slice none 0 0], .int .i64 1]) (by simp [results, Tryz.results38, go_sem, o0, o1, f0, f1, World.cell?_setCell_same, World.cell?_setCell_other]; try rfl) rfl ?_
 exact ⟨(HBf.out.setCell (by simp <;> omega) _).setCell (by simp <;> omega) _, .inl ⟨by rw [HE.out]; decide, by rw [HE.out]⟩⟩)
 case true => (
 have Hq := hide hq
 have hxk : (takeTo regs tk l k)[k]? = some nn := by rw [takeTo_get _ _ _ _ hlt, if_neg (by omega), nd_get Hn.out]
 obtain ⟨g, gc, x, ev, hgB, hgl, hx, hlie, hfr⟩ := hS5.row.get (k := k) (by rw [takeTo_len]; exact hlt)
 subst ev
 rw [hxk] at hx
 injection hx with hx
 subst hx
 obtain ⟨z0, z1, z2, z3, z4, z5⟩ := hlie
 have f0 := hfr (k * 6 + 0) (by rw [takeTo_len]; omega)
 have f1 := hfr (k * 6 + 1) (by rw [takeTo_len]; omega)
 have f2 := hfr (k * 6 + 2) (by rw [takeTo_len]; omega)
 have f3 := hfr (k * 6 + 3) (by rw [takeTo_len]; omega)
 have f4 := hfr (k * 6 + 4) (by rw [takeTo_len]; omega)
 have f5 := hfr (k * 6 + 5) (by rw [takeTo_len]; omega)
 have hm5 := HnB.out.below hb5 HnB.out.lt
 have m1 := hm5.cell 1
 have m4 := hm5.cell 4
 have lm5 := hm5.lt
 have s1 := hS5.box.cell 1
 have ls := hS5.box.lt
 simp only [Yl] at m1 m4 s1
 have e7 := takeTo_len regs tk l k
 rw [e7] at s1
 simp only [Nat.add_zero] at f0
 rw [e7] at hS5
 have HS5 := hide hS5
 have Hxk := hide hxk
 have w0 : k < l.length := hlt
 clear hS5 hxk hfr hm5 hq hb5 hB5
 go_wp2_with fail
 go_roundg (l.length - (k + 1))
 case measure => have := Hgk.out; omega
 case rel => (
 have hp := HS5.out.put6 Hxk.out ⟨2, nn.d, regs, 0, nn.t, 0⟩
 refine ⟨k + 1, .slice (some ⟨g, 0, none⟩) l.length gc, by omega, by go_num, rfl, ?_, fun j hj => ?_⟩
 · rw [takeTo_succ hlt, takeN, if_pos Hy.out, nd_get Hn.out]; exact hp
 · (
 by_cases e : j = k
 · rw [e, nd_get Hn.out, Hq.out]; simp
 · exact Hno.out j (by omega))))))
 · (
 have hkk : k = l.length := by omega
 subst hkk
 rw [takeTo_all] at hS
 have hbad : badTake t tk l = false := by (
 unfold badTake
 rw [List.any_eq_false]
 intro j hj
 rw [Hno.out j (List.mem_range.1 hj)]; simp)
 have Hbad := hide hbad
 have hS : ApSt W1 ob (regs + 1) v (putTo regs t pt (takeL regs tk l) 0) wr := hS
 obtain ⟨OL, hOL⟩ : ∃ o, o = takeL regs tk l := ⟨_, rfl⟩
 have hOl : OL.length = l.length := by rw [hOL]; simp [takeL]
 rw [← hOL] at hS
 have HOL := hide hOL
 have HS2 := hide hS
 have p1 := (HP.out.below hS.below HP.out.lt).cell 1
 have lp := (HP.out.below hS.below HP.out.lt).lt
 simp only [Yl] at p1
 clear hS hbad hOL Hno Hgk hk hlt
 go_wp2_with fail
 obtain ⟨wo, rfl⟩ : ∃ wo : World, wo = wr := ⟨_, rfl⟩
 go_loopg [83] (l.length) (fun gk i wr => ∃ (k : Nat) (v : Value), k ≤ l.length ∧ i = .int .i64 k ∧ gk = l.length - k ∧ ApSt W1 ob (regs + 1) v (putTo regs t pt OL k) wr)
 case atStart => exact ⟨0, _, Nat.zero_le _, rfl, rfl, HS2.out⟩
 case round => (
 clear HS2 p1 lp
 obtain ⟨k, v, hk, rfl, hgk, hS⟩ := hrel
 have Hgk := hide hgk
 clear hgk
 by_cases hlt : k < l.length
 · (
 have hB3 := HB.out.trans (hS.below.mono hz2)
 obtain ⟨yb, yo, ey, ly, yc'⟩ := (HX.out _ hB3).bool (k := k) (by rw [Hp.out]; exact hlt)
 subst ey
 have hL3 := HL.out.below hS.below HL.out.lt
 have x0 := hL3.cell 0
 have lx := hL3.lt
 simp only [Yl] at x0
 have u0 : (0 : Int) ≤ (k : Int) := by omega
 have u1 : (k : Int) < (l.length : Int) := by omega
 have HS := hide hS
 have HB3 := hide hB3
 clear hS hB3 hL3
 cases hy : yn pt k
 case false => (
 rw [hy] at yc'
 have Hy := hide hy
 clear hy
 go_wp2_with fail
 go_roundg (l.length - (k + 1))
 case measure => have := Hgk.out; omega
 case rel => exact ⟨k + 1, _, by omega, by go_num, rfl, by rw [putTo, if_neg (by rw [Hy.out]; simp)]; exact HS.out⟩)
 case true => (
 rw [hy] at yc'
 have Hy := hide hy
 clear hy
 obtain ⟨O, hO⟩ : ∃ o, o = putTo regs t pt OL k := ⟨_, rfl⟩
 have hlen := putTo_len regs t pt OL k
 rw [← hO] at hlen
 have hS := HS.out
 rw [← hO] at hS
 have HOk := hide hO
 clear hO HS
 obtain ⟨g, gc, n0, ev, hgB, hgl, hn0, hl0, hfr⟩ := hS.row.get (k := k) (by omega)
 subst ev
 obtain ⟨c0, c1, c2, c3, c4, c5⟩ := hl0
 have q0 := hS.box.cell 0
 have q1 := hS.box.cell 1
 have fq0 := hS.box.frozen 0
 have fq1 := hS.box.frozen 1
 have lq := hS.box.lt
 simp only [Yl] at q0 q1
 have hobg : ¬ (g = ob) := fun e => (hS.row.ne_blk hS.box (by decide)) (by rw [e]; rfl)
 have n00 : k < O.length := by omega
 have u2 : (k : Int) < (O.length : Int) := by omega
 have hOlen : O.length ≤ 512 := by omega
 have hzS := hS.below.size
 have HS := hide hS
 clear hS hfr
 go_upto_region 20 with fail
 go_cut [14] (fun s14 wx => s14 = .int .i64 k ∧ ∃ g' c', ApSt W1 ob (regs + 1) (.slice (some ⟨g', 0, none⟩) (O.length + 1) c') (O ++ [n0]) wx)
 case first => (
 go_region_law ((refine step_append_nodes (v := .slice (some ⟨g, 0, none⟩) O.length gc) (l := O) (base := W1.heap.size) (by rfl) _ _ _ (by rfl) i3 _ 48 Tryz.underlying22 h3i h3z h3s h3b rfl (by rfl) (by repeat (first | exact HS.out.row | (with_reducible refine NRow.drew ?_) | (with_reducible refine NRow.alloc ?_ _))) (some ⟨wr.heap.size, 0, none⟩) 1 1 [n0] (by rfl) (by rfl) (nodes_one' (by simp)) (by simp [maxLen] <;> omega) (by simp <;> omega) (by simp <;> omega) ?_; intro v4 w4 hr4 hg4 hat4; obtain ⟨g4, c4', x4, hv4, hgB4, hgl4, _, _, _⟩ := hr4.get (k := 0) (by simp); subst hv4; have hq4 : Blk w4 ob 24 #[.int .i64 (regs + 1), .slice (some ⟨g, 0, none⟩) O.length gc] := Blk.grown (by repeat (first | exact HS.out.box | (with_reducible refine Blk.drew ?_) | (with_reducible refine Blk.alloc ?_ _))) hg4 (by simp [Value.ownBlock] <;> omega); have r1 := hq4.cell 1; have r2 := hq4.frozen 1; simp only [Yl] at r1; have e4 : (O ++ [n0]).length = O.length + 1 := (by simp); rw [e4] at hr4; have hP4 := HS.out.append (V := _) (by repeat (first | exact Below.refl _ _ | (with_reducible refine Below.drew ?_) | (with_reducible refine Below.alloc ?_ (by simp <;> omega) _))) hr4 hg4; have HP4 := hide hP4; clear hP4 hq4 hr4 hat4))
 all_goals (go_wp2_with fail)
 all_goals go_meet
 all_goals go_tidy
 all_goals exact ⟨rfl, _, _, HP4.out⟩)
 case rest => (
 obtain ⟨rfl, g', gc', hS4⟩ := hcut
 obtain ⟨W4, rfl⟩ : ∃ W4 : World, W4 = wc := ⟨_, rfl⟩
 have Hn0 := hide hn0
 clear HS c0 c1 c2 c3 c4 c5 q0 q1 fq0 fq1 lq hobg hgB hgl hn0 yc' ly x0 lx
 obtain ⟨g5, c5', x5, ev, hgB5, hgl5, hx5, hl5, hfr5⟩ := hS4.row.get (k := k) (by simp; omega)
 injection ev with ev e2 e3
 injection ev with ev
 injection ev with ev e4
 subst ev
 clear e2 e3 e4
 obtain ⟨c0, c1, c2, c3, c4, c5⟩ := hl5
 have f0 := hfr5 (k * 6 + 0) (by simp; omega)
 have f1 := hfr5 (k * 6 + 1) (by simp; omega)
 have f2 := hfr5 (k * 6 + 2) (by simp; omega)
 have f3 := hfr5 (k * 6 + 3) (by simp; omega)
 have f4 := hfr5 (k * 6 + 4) (by simp; omega)
 have f5 := hfr5 (k * 6 + 5) (by simp; omega)
 simp only [Nat.add_zero] at f0
 have q1 := hS4.box.cell 1
 have lq := hS4.box.lt
 have hT3 := HT.out.below hS4.below HT.out.lt
 have t0 := hT3.cell 0
 have t1 := hT3.cell 1
 have t2 := hT3.cell 2
 have lT := hT3.lt
 simp only [tmA, Yl] at q1 t0 t1 t2
 have u3 : (k : Int) < ((O.length + 1 : Nat) : Int) := by omega
 have w0 : k < O.length + 1 := by omega
 have hws : IntKind.i64.wrap (((O.length + 1 : Nat) : Int) - 1) = (O.length : Int) := by rw [IntKind.wrap_i64]; omega
 have HS4 := hide hS4
 have Hx5 := hide hx5
 clear hS4 hx5 hfr5 hT3
 go_wp2_with fail
 go_roundg (l.length - (k + 1))
 case measure => have := Hgk.out; omega
 case rel => (
 have hp := HS4.out.put6 Hx5.out (putN regs t O.length)
 refine ⟨k + 1, .slice (some ⟨g', 0, none⟩) (O.length + 1) gc', by omega, by go_num, rfl, ?_⟩
 rw [putTo, if_pos Hy.out, ← HOk.out, putStep, nd_get Hn0.out]
 exact hp))))
 · (
 have hkk : k = l.length := by omega
 subst hkk
 have hA : putTo regs t pt OL l.length = applyL regs t pt tk l := by rw [HOL.out]; rfl
 rw [hA] at hS
 obtain ⟨A7, c7, e7, _, _⟩ := hS.row.shape
 subst e7
 have hO := HO.out.below hS.below HO.out.lt
 have s0 := hS.box.cell 0
 have s1 := hS.box.cell 1
 have ls := hS.box.lt
 have o0 := hO.cell 0
 have o1 := hO.cell 1
 have f0 := hO.frozen 0
 have f1 := hO.frozen 1
 simp only [Yl] at s0 s1 o0 o1
 have lO := hO.lt
 have hBf := HB.out.trans (hS.below.mono hz2)
 have hnr := hS.row.ne_blk hO (by decide)
 have Q1 := hide ((hS.row.far (p := ⟨w.heap.size + 1 + 1 + 1, 0, none⟩) hnr (.int .i64 (regs + 1))).far (p := ⟨w.heap.size + 1 + 1 + 1, 1, none⟩) hnr (.slice A7 (applyL regs t pt tk l).length c7))
 have HBf := hide hBf
 have hm : maE regs l t pt tk = if 256 < (applyL regs t pt tk l).length ∨ 64 < regs + 1 then 2 else 0 := by unfold maE; rw [if_neg (by rw [H0.out]; simp), if_neg (by rw [Hp.out, Hk.out]; simp), if_neg (by rw [Hbad.out]; simp)]
 have Hm := hide hm
 have hz9 := hS.below.size
 clear hS hO hA hBf hnr hm Hgk
 unfold MaPost
 generalize (applyL regs t pt tk l).length = N at *
 by_cases h256 : 256 < N
 · (
 have y0 : (256 : Int) < (N : Int) := by omega
 have hE : maE regs l t pt tk = 2 := by rw [Hm.out, if_pos (.inl h256)]
 have HE := hide hE
 clear hE
 go_wp2_with fail
 go_tidy
 refine bodyPost_ret (v := .tuple #[.agg #[.int .i64 0, .slice none 0 0], .int .i64 2]) (by simp [results, Tryz.results38, go_sem, s0, s1, o0, o1, f0, f1, World.cell?_setCell_same, World.cell?_setCell_other]; try rfl) rfl ?_
 exact ⟨(HBf.out.setCell (by simp <;> omega) _).setCell (by simp <;> omega) _, .inl ⟨by rw [HE.out]; decide, by rw [HE.out]⟩⟩)
 · (
 have y0 : ¬ (256 : Int) < (N : Int) := by omega
 by_cases h64 : 64 < regs + 1
 · (
 have hE : maE regs l t pt tk = 2 := by rw [Hm.out, if_pos (.inr h64)]
 have HE := hide hE
 clear hE
 go_wp2_with fail
 go_tidy
 refine bodyPost_ret (v := .tuple #[.agg #[.int .i64 0, .slice none 0 0], .int .i64 2]) (by simp [results, Tryz.results38, go_sem, s0, s1, o0, o1, f0, f1, World.cell?_setCell_same, World.cell?_setCell_other]; try rfl) rfl ?_
 exact ⟨(HBf.out.setCell (by simp <;> omega) _).setCell (by simp <;> omega) _, .inl ⟨by rw [HE.out]; decide, by rw [HE.out]⟩⟩)
 · (
 have hE : maE regs l t pt tk = 0 := by rw [Hm.out, if_neg (fun h => h.elim h256 h64)]
 have HE := hide hE
 clear hE
 go_wp2_with fail
 go_tidy
 refine bodyPost_ret (v := .tuple #[.agg #[.int .i64 (regs + 1), .slice A7 N c7], .int .i64 0]) (by simp [results, Tryz.results38, go_sem, s0, s1, o0, o1, f0, f1, World.cell?_setCell_same, World.cell?_setCell_other]; try rfl) rfl ?_
 exact ⟨(HBf.out.setCell (by simp <;> omega) _).setCell (by simp <;> omega) _, .inr ⟨HE.out, _, rfl, Q1.out.mono (by omega)⟩⟩)))))))
theorem Apply_any (regs : Int) (A : Option Addr) (l : List Nd) (cap : Nat) (t : Tm) (X Y : Option Addr) (pt tk : List Bool) (xc yc : Nat) (w : World) (hl : l.length ≤ maxLen) (hA : NodesAt w A l) (hX : ValsAt w X (bools pt)) (hY : ValsAt w Y (bools tk)) :
 Calls Tryz.prog 38 #[.agg #[.int .i64 regs, .slice A l.length cap], .agg #[.int .i64 t.op, .int .i64 t.a, .int .i64 t.b], .agg #[.slice X pt.length xc, .slice Y tk.length yc]] w (MaPost 44 regs l t pt tk w) := by (
 by_cases h0 : fxE regs l t = 0
 · (
 by_cases h1 : pt.length = l.length
 · (
 by_cases h2 : tk.length = l.length
 · exact Apply_ok regs A l cap t X Y pt tk xc yc w hl hA hX hY h0 h1 h2
 · exact Apply_len regs A l cap t X Y pt tk xc yc w hl hA h0 (.inr h2))
 · exact Apply_len regs A l cap t X Y pt tk xc yc w hl hA h0 (.inl h1))
 · exact Apply_err regs A l cap t X Y pt tk xc yc w hl hA h0)
end
end Go.Proofs.YtmghkonmfbpjcaaGreatDoor
