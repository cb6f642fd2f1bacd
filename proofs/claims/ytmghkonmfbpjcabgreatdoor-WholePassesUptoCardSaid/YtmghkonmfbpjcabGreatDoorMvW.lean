/- Parts. -/
import Derived.Test.YtmghkonmfbpjcabGreatDoorGG
import Derived.Test.YtmghkonmfbpjcabGreatDoorMvI
import Derived.Test.YtmghkonmfbpjcabGreatDoorSplitG
set_option linter.unusedVariables false
set_option linter.unusedSimpArgs false
set_option maxRecDepth 100000
set_option maxHeartbeats 8000000
namespace Go.Proofs.YtmghkonmfbpjcabGreatDoor
open Go.RowKit
open Go.Proofs.Tryz
section
attribute [local irreducible] Row madeCells bO
theorem Blk.alloc_is {w W : World} {o : Obj} {g : Nat} {t : TypeId} {cs : Array Value} (e : W = w.alloc o) (h : Blk w g t cs) : Blk W g t cs := by rw [e]; exact h.alloc _
theorem Blk.far2_is {w W : World} {p q : Addr} {u v : Value} {g : Nat} {t : TypeId} {cs : Array Value} (e : W = (w.setCell p u).setCell q v) (h : Blk w g t cs) (n1 : g ≠ p.block) (n2 : g ≠ q.block) : Blk W g t cs := by rw [e]; exact (h.far n1 _).far n2 _
theorem bQL (regs : Int) (A : Option Addr) (l : List Nd) (cap : Nat) (t : Tm) (w : World) (hl : l.length ≤ maxLen) (hA : bH w A l) (h0 : fxE regs l t ≠ 0) :
 Calls prog 67 #[.agg #[.int .i64 regs, .slice A l.length cap], .agg #[.int .i64 t.op, .int .i64 t.a, .int .i64 t.b]] w (sL 39 regs l t w) := by (
 have HX := bA (fun W (hW : Below w.heap.size w W) => kT regs A l cap t W hl (hA.below hW))
 have hE : gH regs l t = fxE regs l t := by unfold gH; rw [if_pos h0]
 unfold sL
 rw [hE]
 clear hA hE
 have h0' : (fxE regs l t != 0) = true := by simp [h0]
 have H0 := bA h0
 clear h0
 go_enter func67, ntmps67
 go_wp2_with fail
 refine (HX.o _ Yc).mono ?_
 rintro e w1 ⟨hb1, h⟩
 obtain ⟨-, rfl⟩ := h.resolve_right (fun h => H0.o h.1)
 clear h
 refine Ww fun hz1 hB1 => ?_
 have hO1 : Blk w1 (w.heap.size + 1 + 1) 24 #[.int .i64 0, .slice none 0 0] := Blk.below Ye hb1 Zd
 clear hb1
 unfold nil6
 go_upto_region 2 with fail
 obtain ⟨W1, hW1⟩ := Exq (w1.alloc (.cells #[.slice none 0 0, .slice none 0 0, .slice none 0 0, .slice none 0 0, .slice none 0 0, .slice none 0 0] 152))
 have hB2 : Below w.heap.size w W1 := by rw [hW1]; exact hB1.alloc Zb _
 have hO : Blk W1 (w.heap.size + 1 + 1) 24 #[.int .i64 0, .slice none 0 0] := by rw [hW1]; exact hO1.alloc _
 rw [← hW1]
 clear hW1 hB1 hO1
 refine Kp fun f0 f1 o0 o1 lO => ?_
 go_wp2_with fail
 go_tidy
 refine bodyPost_ret (v := .tuple #[.agg #[.int .i64 0, .slice none 0 0], .int .i64 (fxE regs l t)]) (by simp [results, results67, go_sem, o0, o1, f0, f1, Vw, Vv]; try rfl) rfl ?_
 exact ⟨(hB2.setCell Zd _).setCell Zd _, .inl ⟨H0.o, rfl⟩⟩)
theorem bSF (regs : Int) (A : Option Addr) (l : List Nd) (cap : Nat) (t : Tm) (w : World) (hl : l.length ≤ maxLen) (hA : bH w A l) (h0 : fxE regs l t = 0) :
 Calls prog 67 #[.agg #[.int .i64 regs, .slice A l.length cap], .agg #[.int .i64 t.op, .int .i64 t.a, .int .i64 t.b]] w (sL 39 regs l t w) := by (
 have hc0 := mH h0
 have hR := bS hc0
 have hlo := hR.lo
 have hhi := hR.hi
 have HX := bA (fun W (hW : Below w.heap.size w W) => kT regs A l cap t W hl (hA.below hW))
 have HTr := bA (fun W (hW : Below w.heap.size w W) => bEU regs A l cap W hl (hA.below hW))
 have HCl := bA (fun W (hW : Below w.heap.size w W) => kU A l cap W (hA.below hW) hlo Zb)
 have H0 := bA h0
 have HC := bA hc0
 have htl := sV l
 have htc : chk regs (iS l) = 0 := hR.trim.chk
 have HTc := bA htc
 have HRR := bA hR
 clear hA h0 hc0 hR htc
 go_enter func67, ntmps67
 go_wp2_with fail
 refine (HX.o _ Yc).mono ?_
 rintro e w1 ⟨hb1, h⟩
 obtain ⟨-, F, v0, v1, v2, v3, v4, v5, rfl, hF, r0, r1, r2, r3, r4, r5⟩ := h.resolve_left (fun h => h.1 H0.o)
 clear h
 obtain ⟨A0, c0, e0, _, _⟩ := r0.shape
 subst e0
 obtain ⟨A1, c1, e1, _, _⟩ := r1.shape
 subst e1
 obtain ⟨A2, c2, e2, _, _⟩ := r2.shape
 subst e2
 obtain ⟨A3, c3, e3, _, _⟩ := r3.shape
 subst e3
 obtain ⟨A4, c4, e4, _, _⟩ := r4.shape
 subst e4
 obtain ⟨A5, c5, e5, _, _⟩ := r5.shape
 subst e5
 refine K1 fun hz1 hB1 hP1 hT1 => ?_
 have hO1 : Blk w1 (w.heap.size + 1 + 1) 24 #[.int .i64 0, .slice none 0 0] := Blk.below Ye hb1 Zd
 clear hb1 r0 r1 r2 r3 r4 r5 hF
 go_upto_region 2 with fail
 obtain ⟨W1, hW1⟩ := Exq (w1.alloc (.cells #[.slice A0 (bE F.down).length c0, .slice A1 (bE F.up).length c1, .slice A2 (bE F.early).length c2, .slice A3 (bE F.delay).length c3, .slice A4 (bE F.late).length c4, .slice A5 (bE F.alone).length c5] 152))
 have hB2 : Below w.heap.size w W1 := by rw [hW1]; exact hB1.alloc Zb _
 have hP2 := Blk.alloc_is hW1 hP1
 have hT2 := Blk.alloc_is hW1 hT1
 have hO2 := Blk.alloc_is hW1 hO1
 rw [← hW1]
 clear hW1 hB1 hP1 hT1 hO1
 have p0 := hP2.cell 0
 have p1 := hP2.cell 1
 simp only [Yl] at p0 p1
 have lp := hP2.lt
 go_wp2_with fail
 refine (HTr.o _ hB2).mono ?_
 rintro e w2 ⟨hb2, h⟩
 obtain ⟨-, v, rfl, hr⟩ := h.resolve_left (fun h => h.1 HC.o)
 clear h
 obtain ⟨Tq, qc, hv, _, _⟩ := hr.shape
 subst hv
 have hB3 := hB2.trans (hb2.mono hB2.size)
 have hP3 := hP2.below hb2 hP2.lt
 have hT3 := hT2.below hb2 hT2.lt
 have hO3 := hO2.below hb2 hO2.lt
 have hr2 := hr.mono hB2.size
 clear hb2 hB2 hP2 hT2 hO2 hr p0 p1 lp
 go_upto_region 5 with fail
 obtain ⟨W2, hW2⟩ := Exq (w2.alloc (.cells #[.int .i64 regs, .slice Tq (iS l).length qc] 24))
 have hz3 := hB3.size
 have hB4 : Below w.heap.size w W2 := by rw [hW2]; exact hB3.alloc hz3 _
 have hP4 := Blk.alloc_is hW2 hP3
 have hT4 := Blk.alloc_is hW2 hT3
 have hO4 := Blk.alloc_is hW2 hO3
 have hQ4 : Blk W2 w2.heap.size 24 #[.int .i64 regs, .slice Tq (iS l).length qc] := by rw [hW2]; exact Blk.new' rfl
 have hr4 : cO W2 w.heap.size 39 (.slice Tq (iS l).length qc) (iS l) := by rw [hW2]; exact hr2.alloc _
 rw [← hW2]
 obtain ⟨qb, hqb⟩ := Exq w2.heap.size
 rw [← hqb] at hQ4 ⊢
 have hqw : w.heap.size + 1 + 1 < qb := by have := hO3.lt; omega
 clear hW2 hqb hB3 hP3 hT3 hO3 hr2 hz3
 have q0 := hQ4.cell 0
 have q1 := hQ4.cell 1
 have fq0 := hQ4.frozen 0
 have fq1 := hQ4.frozen 1
 simp only [Yl] at q0 q1
 have lq := hQ4.lt
 have HSp := bA (zU regs Tq (iS l) qc W2 Zb hr4.nodes)
 clear hr4
 go_wp2_with fail
 refine (HSp.o).mono ?_
 rintro e w3 ⟨hb3, h⟩
 have h := h.resolve_left (fun h => h.1 HTc.o)
 have hz4 := hB4.size
 have hB5 := hB4.trans (hb3.mono hz4)
 have hP5 := hP4.below hb3 hP4.lt
 have hT5 := hT4.below hb3 hT4.lt
 have hO5 := hO4.below hb3 hO4.lt
 have hQ5 := hQ4.below hb3 hQ4.lt
 clear hP4 hT4 hO4 hQ4 q0 q1 fq0 fq1 lq HSp
 have q0 := hQ5.cell 0
 have q1 := hQ5.cell 1
 have fq0 := hQ5.frozen 0
 have fq1 := hQ5.frozen 1
 simp only [Yl] at q0 q1
 have lq := hQ5.lt
 rcases h with ⟨-, h256, rfl⟩ | ⟨-, h256, v, rfl, hr⟩
 · (
 change 256 < (eK l).length at h256
 have hE : gH regs l t = 2 := by unfold gH; rw [if_neg Xv, if_pos h256]
 have HE := bA hE
 clear hE h256
 have HB := bA hB5
 clear hB5 hb3
 have hO := hO5
 refine Kp fun f0 f1 o0 o1 lO => ?_
 go_wp2_with fail
 go_tidy
 refine bodyPost_ret (v := .tuple #[.agg #[.int .i64 0, .slice none 0 0], .int .i64 2]) (by simp [results, results67, go_sem, o0, o1, f0, f1, Vw, Vv]; try rfl) rfl ?_
 exact ⟨(((HB.o.setCell Zd _).setCell Zd _).setCell Zd _).setCell Zd _, .inl ⟨by rw [HE.o]; decide, by rw [HE.o]⟩⟩)
 · (
 change (eK l).length ≤ 256 at h256
 change cO w3 W2.heap.size _ v (eK l) at hr
 have hRq := rE HC.o h256
 have hfq := fxE_q H0.o hRq
 have Hfq := bA hfq
 have HRq := bA hRq
 have hqlo := hRq.lo
 clear hfq hRq
 obtain ⟨Sq, sc, hv, _, _⟩ := hr.shape
 subst hv
 have hnq := hr.ne_blk hQ5 Ze
 go_upto_region 6 with fail
 obtain ⟨W3, hW3⟩ := Exq ((w3.setCell ⟨qb, 0, none⟩ (.int .i64 regs)).setCell ⟨qb, 1, none⟩ (.slice Sq (eK l).length sc))
 rw [← hW3]
 have hB6 : Below w.heap.size w W3 := by rw [hW3]; exact (hB5.setCell Zd _).setCell Zd _
 have hP6 := Blk.far2_is hW3 hP5 Zd Zd
 have hT6 := Blk.far2_is hW3 hT5 Zd Zd
 have hO6 := Blk.far2_is hW3 hO5 Zd Zd
 have hQ6 : Blk W3 qb 24 #[.int .i64 regs, .slice Sq (eK l).length sc] := by rw [hW3]; exact (hQ5.set_ 0 _).set_ 1 _
 have hr6 : cO W3 w.heap.size 39 (.slice Sq (eK l).length sc) (eK l) := by rw [hW3]; exact ((hr.far (p := ⟨qb, 0, none⟩) hnq _).far (p := ⟨qb, 1, none⟩) hnq _).mono hz4
 clear hW3 hB5 hP5 hT5 hO5 hQ5 hr hnq q0 q1 fq0 fq1 lq hb3 hB4 hz4
 have q0 := hQ6.cell 0
 have q1 := hQ6.cell 1
 have t0 := hT6.cell 0
 have t1 := hT6.cell 1
 have t2 := hT6.cell 2
 simp only [tmA, Yl] at q0 q1 t0 t1 t2
 have lq := hQ6.lt
 have lt6 := hT6.lt
 have HLz := bA (bOR regs Sq (eK l) sc t W3 Zq hr6.nodes)
 go_wp2_with fail
 refine (HLz.o).mono ?_
 rintro e w4 ⟨hb4, h⟩
 obtain ⟨-, F, v1, v2, hF, rfl, r1, r2, hne⟩ := h.resolve_left (fun h => h.1 Hfq.o)
 clear h HLz
 have hFe : F = bNT t (eK l) := hF.unique (bIM _ _)
 subst hFe
 clear hF
 change Row w4 W3.heap.size _ v1 (bE (iE t l)) at r1
 change Row w4 W3.heap.size _ v2 (bE (iD t l)) at r2
 obtain ⟨A1, c1, e1, _, _⟩ := r1.shape
 rw [bD] at e1
 subst e1
 obtain ⟨A2, c2, e2, _, _⟩ := r2.shape
 rw [bD] at e2
 subst e2
 have hz6 := hB6.size
 have hB7 := hB6.trans (hb4.mono hz6)
 have hP7 := hP6.below hb4 hP6.lt
 have hT7 := hT6.below hb4 hT6.lt
 have hO7 := hO6.below hb4 hO6.lt
 have hQ7 := hQ6.below hb4 hQ6.lt
 have hr7 := hr6.below' hb4
 have x7 := r1.vals
 have y7 := r2.vals
 clear hb4 hB6 hP6 hT6 hO6 hQ6 hr6 q0 q1 t0 t1 t2 lq lt6 r1 r2 hz6 hne
 go_upto_region 9 with fail
 obtain ⟨W4, hW4⟩ := Exq (w4.alloc (.cells #[.slice A1 (iE t l).length c1, .slice A2 (iD t l).length c2] 133))
 have hz7 := hB7.size
 have hB8 : Below w.heap.size w W4 := by rw [hW4]; exact hB7.alloc hz7 _
 have hP8 := Blk.alloc_is hW4 hP7
 have hT8 := Blk.alloc_is hW4 hT7
 have hO8 := Blk.alloc_is hW4 hO7
 have hQ8 := Blk.alloc_is hW4 hQ7
 have hr8 : cO W4 w.heap.size 39 (.slice Sq (eK l).length sc) (eK l) := by rw [hW4]; exact hr7.alloc _
 have hL8 : Blk W4 w4.heap.size 133 #[.slice A1 (iE t l).length c1, .slice A2 (iD t l).length c2] := by rw [hW4]; exact Blk.new' rfl
 have hb44 : Below w4.heap.size w4 W4 := by rw [hW4]; exact (Bnq _ _)
 have x8 := x7.below hb44
 have y8 := y7.below hb44
 rw [← hW4]
 obtain ⟨pb, hpb⟩ := Exq w4.heap.size
 rw [← hpb] at hL8 ⊢
 have hpw : qb < pb := by have := hQ7.lt; omega
 clear hW4 hpb hB7 hP7 hT7 hO7 hQ7 hr7 hz7 x7 y7 hb44
 have l0 := hL8.cell 0
 have l1 := hL8.cell 1
 simp only [Yl] at l0 l1
 have lL := hL8.lt
 have HCc := bA (fun (g : Nat) (V : World) (hV : Below W4.heap.size W4 V) (hs : Blk V g 74 #[.slice A1 (iE t l).length c1, .slice A2 (iD t l).length c2]) => bHZ g A1 A2 (iE t l) (iD t l) c1 c2 V hs (x8.below hV) (y8.below hV) (by rw [rY]; omega) (by rw [rX]; omega))
 go_wp2_with fail
 refine (HCc.o _ _ ((Bnq _ _)) (Blk.new' rfl)).mono ?_
 rintro e w5 ⟨v, rfl, hr5, hb5⟩
 obtain ⟨zz, hzz⟩ := Exq (iE t l ++ iD t l)
 rw [← hzz] at hr5
 obtain ⟨A5, c5, e5, _, _⟩ := hr5.shape
 rw [bD] at e5
 subst e5
 have hb5 : Below W4.heap.size W4 w5 := ((Bnq _ _)).trans (hb5.mono Zf)
 have HCn := bA (yH zz A5 c5 w5 hr5.vals (by rw [hzz, Vz, rY, rX]; simp [maxLen]; omega))
 have Hzz := bA hzz
 clear HCc hr5 l0 l1 lL hzz
 have hz8 := hB8.size
 have hB9 := hB8.trans (hb5.mono hz8)
 have hP9 := hP8.below hb5 hP8.lt
 have hT9 := hT8.below hb5 hT8.lt
 have hO9 := hO8.below hb5 hO8.lt
 have hQ9 := hQ8.below hb5 hQ8.lt
 have hL9 := hL8.below hb5 hL8.lt
 have hr9 := hr8.below' hb5
 have x9 := x8.below hb5
 have y9 := y8.below hb5
 clear hb5 hB8 hP8 hT8 hO8 hQ8 hL8 hr8 x8 y8 hz8
 go_wp2_with fail
 refine (HCn.o).mono ?_
 rintro e w6 ⟨rfl, rfl⟩
 clear HCn
 obtain ⟨an, han⟩ := Exq (zz.any id)
 rw [← han]
 rw [Hzz.o] at han
 change an = mN t l at han
 have hO := hO9
 refine Kp fun f0 f1 o0 o1 lO => ?_
 have HB := bA hB9
 have hbw := hB9.size
 clear hO9 hB9
 cases an
 case false => (
 have hE : gH regs l t = 0 := by unfold gH; rw [if_neg Xv, if_neg Zb, if_neg (by rw [← han]; simp)]
 have hRr : pG regs l t = regs := by unfold pG; rw [if_neg (by rw [← han]; simp)]
 have hLl : pH regs l t = l := by unfold pH; rw [if_neg (by rw [← han]; simp)]
 have HE := bA hE
 have HRr := bA hRr
 have HLl := bA hLl
 clear hE hRr hLl han
 have p0 := hP9.cell 0
 have p1 := hP9.cell 1
 simp only [Yl] at p0 p1
 have lp := hP9.lt
 clear hT9 hQ9 hL9 hr9 x9 y9
 go_upto_region 12 with fail
 have HH : ∀ (V : World), Below w6.heap.size w6 V → (V.cell? ⟨w.heap.size, 0, none⟩ = some (.int .i64 regs) ∧ V.cell? ⟨w.heap.size, 1, none⟩ = some (.slice A l.length cap)) := fun V hV => ⟨((bB hV).1 _ _ Zb).trans p0, ((bB hV).1 _ _ Zb).trans p1⟩
 refine Jy ?_
 intro hH
 have hC0 : Below w6.heap.size w6 w6.drew := (Below.refl _ _).drew
 generalize w6.drew = V0 at hH hC0 ⊢
 refine Up (fun _ _ _ _ _ => id) fun hP => ?_
 iterate 1 (refine Wc hP hH ?_; try simp only [Nm])
 iterate 1 (refine Wb hP hH ?_; try simp only [Nm])
 iterate 1 (refine Wc hP hH ?_; try simp only [Nm])
 iterate 1 (refine Wb hP hH ?_; try simp only [Nm])
 refine Rd 4 Zc rfl (fun K hK => ?_)
 have HK4 := bA hK
 clear hK
 go_simp
 go_at_call 12
 refine (HCl.o _ (HB.o.trans (hC0.mono hbw))).mono ?_
 rintro e V1 ⟨v, rfl, hr, hbV1⟩
 have hC1 : Below w6.heap.size w6 V1 := hC0.trans (hbV1.mono hC0.size)
 have hrV := hr.mono (Nat.le_trans hbw hC0.size)
 clear hH
 obtain ⟨Ac, cc, ev, _, _⟩ := hrV.shape
 subst ev
 refine Shut.out HK4.o _ _ (HH _ hC1) (fun hH => ?_)
 try simp only [Nm]
 clear HK4
 refine Vc 5 _ rfl hP hH ?_
 try simp only [Nm]
 have hnO := hrV.ne_blk (hO.below hC1 lO) Ze
 have hO := hO.below hC1 lO
 refine Kp fun f0 f1 o0 o1 lO => ?_
 refine Rd 6 Zc rfl (fun K hK => ?_)
 have HK6 := bA hK
 clear hK
 go_simp
 refine Shut.out HK6.o _ _ ⟨(bL Zb _ _).trans ((bL Zb _ _).trans (((bB hC1).1 _ _ Zb).trans p0)), (bL Zb _ _).trans ((bL Zb _ _).trans (((bB hC1).1 _ _ Zb).trans p1))⟩ (fun hH => ?_)
 try simp only [Nm]
 clear HK6
 refine Vc 7 _ rfl hP hH ?_
 try simp only [Nm]
 refine wpAnyH_done Zc ?_ _
 have HBf := bA (HB.o.trans (hC1.mono hbw))
 have Q := bA (hrV.far (p := ⟨w.heap.size + 1 + 1, 0, none⟩) hnO (.int .i64 regs))
 have Q := bA (Q.out.far (p := ⟨w.heap.size + 1 + 1, 1, none⟩) hnO (.slice Ac l.length cc))
 clear hrV hH
 go_wp2_with fail
 go_tidy
 refine bodyPost_ret (v := .tuple #[.agg #[.int .i64 regs, .slice Ac l.length cc], .int .i64 0]) (by simp [results, results67, go_sem, o0, o1, f0, f1, Vw, Vv]; try rfl) rfl ?_
 exact ⟨(HBf.o.setCell Zd _).setCell Zd _, .inr ⟨HE.o, _, by rw [HRr.o], by rw [HLl.o]; exact Q.out⟩⟩)
 case true => (
 have hE : gH regs l t = maE regs (eK l) t (iE t l) (iD t l) := by unfold gH; rw [if_neg Xv, if_neg Zb, if_pos han.symm]
 have hRr : pG regs l t = regs + 1 := by unfold pG; rw [if_pos han.symm]
 have hLl : pH regs l t = dF regs t (iE t l) (iD t l) (eK l) := by unfold pH; rw [if_pos han.symm]
 have HE := bA hE
 have HRr := bA hRr
 have HLl := bA hLl
 clear hE hRr hLl han
 have q0 := hQ9.cell 0
 have q1 := hQ9.cell 1
 have t0 := hT9.cell 0
 have t1 := hT9.cell 1
 have t2 := hT9.cell 2
 have l0 := hL9.cell 0
 have l1 := hL9.cell 1
 simp only [tmA, Yl] at q0 q1 t0 t1 t2 l0 l1
 have lq := hQ9.lt
 have lt9 := hT9.lt
 have lL := hL9.lt
 have HAp := bA (bLB regs Sq (eK l) sc t A1 A2 (iE t l) (iD t l) c1 c2 w6 Zq hr9.nodes x9 y9)
 clear hr9 x9 y9
 go_wp2_with fail
 refine (HAp.o).mono ?_
 rintro e w7 ⟨hb7, h⟩
 have HBf := bA (HB.o.trans (hb7.mono hbw))
 have hO := hO.below hb7 lO
 clear o0 o1 f0 f1 lO HAp q0 q1 t0 t1 t2 l0 l1 lq lt9 lL
 refine Kp fun f0 f1 o0 o1 lO => ?_
 rcases h with ⟨hne, rfl⟩ | ⟨h0, v, rfl, hr⟩
 · (
 clear hb7
 go_wp2_with fail
 go_tidy
 refine bodyPost_ret (v := .tuple #[.agg #[.int .i64 0, .slice none 0 0], .int .i64 (maE regs (eK l) t (iE t l) (iD t l))]) (by simp [results, results67, go_sem, o0, o1, f0, f1, Vw, Vv]; try rfl) rfl ?_
 exact ⟨(HBf.o.setCell Zd _).setCell Zd _, .inl ⟨by rw [HE.o]; exact hne, by rw [HE.o]⟩⟩)
 · (
 have hrV := hr.mono hbw
 obtain ⟨Ac, cc, ev, _, _⟩ := hrV.shape
 subst ev
 obtain ⟨N, hN⟩ := Exq ((dF regs t (iE t l) (iD t l) (eK l)).length)
 rw [← hN] at hrV ⊢
 have hnO := hrV.ne_blk hO Ze
 have Q := bA (hrV.far (p := ⟨w.heap.size + 1 + 1, 0, none⟩) hnO (.int .i64 (regs + 1)))
 have Q := bA (Q.out.far (p := ⟨w.heap.size + 1 + 1, 1, none⟩) hnO (.slice Ac N cc))
 have HZ := bA h0
 clear hrV hr hnO hb7 hN h0
 go_wp2_with fail
 go_tidy
 refine bodyPost_ret (v := .tuple #[.agg #[.int .i64 (regs + 1), .slice Ac N cc], .int .i64 0]) (by simp [results, results67, go_sem, o0, o1, f0, f1, Vw, Vv]; try rfl) rfl ?_
 exact ⟨(HBf.o.setCell Zd _).setCell Zd _, .inr ⟨by rw [HE.o]; exact HZ.o, _, by rw [HRr.o], by rw [HLl.o]; exact Q.out⟩⟩))))
theorem bQM (regs : Int) (A : Option Addr) (l : List Nd) (cap : Nat) (t : Tm) (w : World) (hl : l.length ≤ maxLen) (hA : bH w A l) :
 Calls prog 67 #[.agg #[.int .i64 regs, .slice A l.length cap], .agg #[.int .i64 t.op, .int .i64 t.a, .int .i64 t.b]] w (sL 39 regs l t w) := by (
 by_cases h0 : fxE regs l t = 0
 · exact bSF regs A l cap t w hl hA h0
 · exact bQL regs A l cap t w hl hA h0)
end
end Go.Proofs.YtmghkonmfbpjcabGreatDoor
